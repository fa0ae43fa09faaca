/- The machine by value: open orders, shared boxes; the whole. -/
import Derived.Test.YtbnheahpdodmjaaGreatDoorMd
import Derived.ProofKit
import Derived.WalkKit
import Derived.OpenShut
/- What a pure operation answers depends on the slots it reads. -/
set_option linter.unusedSimpArgs false
set_option linter.unusedVariables false
open Array renaming getD_eq_getD_getElem? → bh, replicate → s9
open Bool renaming and_eq_true → ae, false_and → jc, false_eq_true → bk, not_eq_true' → bJ, or_eq_false_iff → fa, or_eq_true → dT
open Classical renaming choose → Dk, choose_spec → jQ
open List renaming append_assoc → dJ, getD_eq_getElem?_getD → au, getElem?_drop → bf, getElem?_eq_getElem → ai, getElem?_eq_none → cE, getElem?_map → cn, getElem?_of_mem → bE, getElem?_set → aR, getElem?_take → bP, head?_eq_getElem? → yB, isEmpty_iff → fy, length_append → bK, length_set → bG, length_take → bw, mem_append → aF, mem_append_left → XC, mem_append_right → Vk, mem_cons → aG, mem_of_getElem? → bn, mem_of_mem_drop → di, mem_of_mem_take → dh, mem_singleton → cU, range → eF, set_append_left → XB
open Nat renaming le_max_left → Aq, le_max_right → yl, le_refl → aO
open Option renaming isSome_iff_exists → aU, map_some → cD
open Option.some renaming inj → bm, injEq → af
open Prod.mk renaming injEq → aC
namespace Go.Bm
open Go.Am
section
variable {P:Program} {c:eI} {call:Nat->List AV->Heap->Option (AV × Heap)}
theorem cu {e1 e2:Env} {x:E} (h:∀i∈x.slot,fo i (get e1 i)=fo i (get e2 i)):bp c e1 x=bp c e2 x:=by
 cases x with
 |t i=>exact h i (by simp[E.slot])
 |k x=>rfl
 |g i=>rfl
theorem gX {e1 e2:Env}:∀{xs:List E},(∀i∈pw xs,fo i (get e1 i)=fo i (get e2 i))->dC c e1 xs=dC c e2 xs
 |[],_=>rfl
 |x::r,h=>by
   simp only[pw,aF] at h;simp only[dC];rw[cu fun i hi=>h i (.inl hi),gX fun i hi=>h i (.inr hi)]
theorem uE {e1 e2:Env}:∀{ps:List (Nat × Nat × E)} {zs:List AV},(∀i∈th ps,fo i (get e1 i)=fo i (get e2 i))->sE c e1 zs ps=sE c e2 zs ps
 |[],_,_=>by simp[sE]
 |(o,s,x)::r,zs,h=>by
   simp only[th,aF] at h;simp only[sE];rw[cu (c:=c) fun i hi=>h i (.inl hi)];split
   ·exact uE fun i hi=>h i (.inr hi)
   ·rfl
theorem tu {e1 e2:Env}:∀{ps:List (Nat × Nat × E)},(∀i∈th ps,fo i (get e1 i)=fo i (get e2 i))->ig c e1 ps=ig c e2 ps
 |[],_=>by simp[ig]
 |(o,s,x)::r,h=>by
   simp only[th,aF] at h;simp only[ig];rw[cu (c:=c) fun i hi=>h i (.inl hi),tu fun i hi=>h i (.inr hi)]
theorem C9 {e1 e2:Env} {d m:Nat} {x:Option E} (h:∀i∈Nt x,fo i (get e1 i)=fo i (get e2 i)):Da c e1 d m x=Da c e2 d m x:=by
 cases x with
 |none=>rfl
 |some x=>simp only[Da]; rw[cu h]
theorem Oa {e1 e2:Env} {kd:Kd} (h:∀i∈kd.reads,fo i (get e1 i)=fo i (get e2 i)):VZ c e1 kd=VZ c e2 kd:=by
 cases kd<;>simp only[Kd.reads,aF] at h<;>simp only[VZ]
 case pick x y z=>rw[cu (c:=c) fun i hi=>h i (.inl hi),cu (c:=c) fun i hi=>h i (.inr (.inl hi)),cu (c:=c) fun i hi=>h i (.inr (.inr hi))]
 case build=>rw[uE (c:=c) h]
 case Fc k x lo hi=>rw[cu (c:=c) fun i hi=>h i (.inl hi)]; simp only[C9 (c:=c) fun i hi=>h i (.inr (.inl hi)),C9 (c:=c) fun i hi=>h i (.inr (.inr hi))]
 case Na n x u=>rw[cu (c:=c) fun i hi=>h i (.inl hi)]
 case min=>rw[gX (c:=c) h]
 case max=>rw[gX (c:=c) h]
 case U0=>rw[gX (c:=c) fun i hi=>h i (.inl hi),gX (c:=c) fun i hi=>h i (.inr hi)]
 all_goals first
  |rfl
  |rw[cu (c:=c) h]
  |rw[cu (c:=c) fun i hi=>h i (.inl hi),cu (c:=c) fun i hi=>h i (.inr hi)]
theorem LA {e1 e2:Env} {kd:Kd} (h:∀i∈kd.reads,fo i (get e1 i)=fo i (get e2 i)):qM c e1 kd=qM c e2 kd:=by
 cases kd<;>simp only[qM]
 case call=>rw[gX (c:=c) h]
 case jC=>
  simp only[Kd.reads,aF] at h;rw[cu (c:=c) fun i hi=>h i (.inl hi),gX (c:=c) fun i hi=>h i (.inr hi)]
theorem iY {e1 e2:Env} {kd:Kd} (h:∀i∈kd.reads,fo i (get e1 i)=fo i (get e2 i)):getArgs c e1 kd=getArgs c e2 kd:=by
 unfold getArgs;rw[LA h]
def Seen (ps:List Rt) (s t:St):Prop:=∀p∈ps,az t p=az s p/\∀ b l,p=.c b l->aJ t.H b=aJ s.H b
theorem VW {s t:St} {ag:Option Nat} {x v:AV} {ps:List Rt} (h:CC s ag x=some (v,ps)) (hs:Seen ps s t):CC t ag x=some (v,ps):=by
 unfold CC at h ⊢;split at h
 ·exact h
 ·rename_i b off;split at h
  case h_2=>cases h
  rename_i cs hb;split at h
  case h_2=>cases h
  rename_i u hu;simp only[af,aC] at h;obtain⟨rfl,rfl⟩:=h;have:=(hs _ (cU.2 rfl)).2 b _ rfl;simp only[this,hb,hu]
 ·rename_i k p i off;split at h
  case h_2=>cases h
  rename_i k' xs ho;split at h
  case isFalse=>cases h
  rename_i hk;split at h
  case h_2=>cases h
  rename_i y hy;split at h
  case h_2=>cases h
  rename_i u hu;simp at h;obtain⟨rfl,rfl⟩:=h;have:=(hs p (by simp)).1;simp only[this,ho,hk,if_true,hy,hu]
 ·cases h
def tU (b j:Nat) (s t:St):Prop:=∀cs,aJ s.H b=some cs->∃ds,aJ t.H b=some ds/\(fc (.c b) 0 ds)[j]?=(fc (.c b) 0 cs)[j]?
def B0 (f:Fq) (s t:St):Prop:=(∀ps,f=.rd ps->Seen ps s t)/\∀ b j,f=.rc b j->tU b j s t
theorem wJ (f:Nat->Rt):∀{cs ds:List AV} {j i:Nat},cs[i]?=ds[i]?->(fc f j cs)[i]?=(fc f j ds)[i]?
 |[],[],_,_,_=>rfl
 |[],d::ds,j,0,h=>by simp at h
 |c::cs,[],j,0,h=>by simp at h
 |[],d::ds,j,i+1,h=>by
   have:=wJ f (cs:=[]) (ds:=ds) (j:=j+1) (i:=i) (by simpa using h);cases d<;>simpa[fc] using this
 |c::cs,[],j,i+1,h=>by
   have:=wJ f (cs:=cs) (ds:=[]) (j:=j+1) (i:=i) (by simpa using h);cases c<;>simpa[fc] using this
 |c::cs,d::ds,j,0,h=>by
   simp at h;subst h;cases c<;>simp[fc]
 |c::cs,d::ds,j,i+1,h=>by
   have:=wJ f (cs:=cs) (ds:=ds) (j:=j+1) (i:=i) (by simpa using h);cases c<;>cases d<;>simpa[fc] using this
theorem aga {ag:Option Nat} {cs ds:List AV} {k:Nat} {p:Rt} {o l:Nat} (h:PJ ag cs=some (.dP k p o l)) (e:ds[0]?=cs[0]?):PJ ag ds=some (.dP k p o l):=by
 unfold PJ Fj at h ⊢;cases ag with
 |some n=>simp only at h ⊢; (repeat' split at h)<;>simp_all
 |none=>
   simp only at h ⊢;have:ds.head?=cs.head?:=by rw[yB,yB]; exact e
   rw[this]; exact h
theorem abD {s t:St} {ag:Option Nat} {x v:AV} {ps:List Rt} (h:CC s ag x=some (v,ps)) (hs:B0 (zQ x v ps) s t):CC t ag x=some (v,ps):=by
 by_cases hx:∃b off k o l,x=.ptr b off/\v=.dP k (.c b off) o l
 ·obtain⟨b,off,k,o,l,rfl,rfl⟩:=hx;have MC:=hs.2 b off (by simp[zQ]);unfold CC at h ⊢;simp only at h ⊢;split at h
  case h_2=>cases h
  rename_i cs hb;split at h
  case h_2=>cases h
  rename_i u hu;simp only[af,aC] at h;obtain⟨rfl,h2⟩:=h;obtain⟨ds,d1,d2⟩:=MC cs hb
  have:PJ ag ((fc (.c b) 0 ds).drop off)=some (.dP k (.c b off) o l):=aga hu (by
   rw[bf,bf];simpa using d2)
  simp only[d1,this,h2]
 ·refine VW h (hs.1 ps ?_);unfold zQ;split
  ·rename_i b off k d j o l;split
   ·rename_i hc;obtain⟨rfl,rfl⟩:=hc;exact absurd ⟨_,_,_,_,_,rfl,rfl⟩ hx
   ·rfl
  ·rfl
end
end Go.Bm

/- Operations that change nothing that is there: what they answer depends on the slots they read and on the places they name. -/
namespace Go.Bm
open Go.Am
section
variable {P:Program} {c:eI} {call:Nat->List AV->Heap->Option (AV × Heap)}
theorem Seen.left {ps qs:List Rt} {s t:St} (h:Seen (ps++qs) s t):Seen ps s t:=fun p hp=>h p (by simp[hp])
theorem Seen.right {ps qs:List Rt} {s t:St} (h:Seen (ps++qs) s t):Seen qs s t:=fun p hp=>h p (by simp[hp])
mutual
theorem LC {b:Bool} {s t:St}:∀x,Seen (aS x) s t->mU b t x=mU b s x
 |.dP k p off len,h=>by simp only[mU]; rw[(h p (by simp[aS])).1]
 |.agg cs,h=>by simp only[mU]; rw[tD cs (by simpa[aS] using h)]
 |.dt cs,h=>by simp only[mU]; rw[tD cs (by simpa[aS] using h)]
 |.func f a b',h=>by
   have h':Seen (dn a++dn b') s t:=by simpa[aS] using h
   simp only[mU]; rw[tD a h'.left,tD b' h'.right]
 |.own _ _,_=>rfl
 |.ptr _ _,_=>rfl
 |.fv _ _ _ _,_=>rfl
 |.sl _ _ _ _,_=>rfl
 |.any,_=>rfl
 |.undef,_=>rfl
 |.bool _,_=>rfl
 |.int _ _,_=>rfl
 |.fN,_=>rfl
 |.fS,_=>rfl
 |.du,_=>rfl
 |.str _,_=>rfl
 |.dy _,_=>rfl
 |.list _ _,_=>rfl
theorem tD {b:Bool} {s t:St}:∀xs,Seen (dn xs) s t->FZ b t xs=FZ b s xs
 |[],_=>rfl
 |x::r,h=>by
   have h':Seen (aS x++dn r) s t:=by simpa[dn] using h
   simp only[FZ]; rw[LC x h'.left,tD r h'.right]
end
theorem W7 {s t:St} {k:Nat} {x:AV} (h:Seen (aS x) s t):cont t k x=cont s k x:=by
 cases x<;>try rfl
 case dP k' p off len=>simp only[cont]; rw[(h p (by simp[aS])).1]
 case own k' xs=>cases xs<;>rfl
theorem WR {s t:St} {k b off len:Nat} (h:Seen [.c b 1] s t):T9 t k b off len=T9 s k b off len:=by
 unfold T9;rw[(h _ (cU.2 rfl)).2 b 1 rfl]
theorem LG {s t:St}:∀xs,Seen (dn xs++Ja xs) s t->wY t xs=wY s xs
 |[],_=>rfl
 |x::r,h=>by
   have hb:Seen (aS x++dn r) s t:=by simpa[dn] using h.left
   have iR:Seen (Ja r) s t:=fun p hp=>h p (aF.2 (.inr (by cases x<;>simp[Ja,hp])));have ih:=LG r fun p hp=>(aF.1 hp).elim (fun q=>hb.right p q) (iR p);have hx:=LC (b:=false) x hb.left;cases x<;>try (simp only[wY]; rw[hx,ih]; done)
   case sl k b off len=>
    simp only[wY];rw[ih,WR fun p hp=>h p (aF.2 (.inr (by simp[Ja,cU.1 hp])))]
   case own k xs=>
    cases xs with
    |nil=>simp only[wY]; rw[ih]
    |cons y ys=>simp only[wY]; rw[hx,ih]
def calm:Fq->Bool
 |.no|.rc _ _|.rd _|.al _=>true
 |_=>false
def Dc (s s1:St) (kd:Kd) (f:Fq) (v:AV) (g:St->Option (AV × St × Fq)):Prop:=
 ∃ T,s1=⟨s.env,s.H++T⟩/\(T=[]\/∃ z,T=[z]/\f=.al s.H.length)/\∀ t:St,(∀i∈kd.reads,fo i (get t.env i)=fo i (get s.env i))->B0 f s t->(∀n,f=.al n->t.H.length=n)->g t=some (v,⟨t.env,t.H++T⟩,f)
theorem zP (x v:AV) (ps:List Rt):zQ x v ps=.rd ps\/∃ b j,zQ x v ps=.rc b j:=by
 unfold zQ;split
 ·split
  ·exact .inr ⟨_,_,rfl⟩
  ·exact .inl rfl
 ·exact .inl rfl
theorem Dc.still {s:St} {kd:Kd} {f:Fq} {v:AV} {g:St->Option (AV × St × Fq)} (h:∀t:St,(∀i∈kd.reads,fo i (get t.env i)=fo i (get s.env i))->B0 f s t->g t=some (v,t,f)):Dc s s kd f v g:=
 ⟨[],by simp,.inl rfl,fun t h1 h2 _=>by rw[h t h1 h2]; simp⟩
end
end Go.Bm

/- Every calm operation depends on what it names alone. -/
namespace Go.Bm
open Go.Am
section
variable {P:Program} {c:eI} {call:Nat->List AV->Heap->Option (AV × Heap)}
theorem aco {s s':St} {b off k:Nat} {v:AV} {f:Fq} (h:BD s b off k v=some (s',f)):calm f=false:=by
 unfold BD at h
 repeat' split at h
 all_goals first
  |(cases h; done)
  |(simp at h; obtain⟨_,rfl⟩:=h; rfl)
theorem Vu {s s':St} {k:Nat} {a v:AV} {f:Fq} (h:UZ s k a v=some (s',f)):calm f=false:=by
 unfold UZ at h;split at h
 ·exact aco h
 ·repeat' split at h
  all_goals first
   |(cases h; done)
   |(simp at h; obtain⟨_,rfl⟩:=h; rfl)
 ·cases h
theorem A6 (s:St) (l:List Rt):o7 s l=.all\/∃ sl bs,o7 s l=.wr sl bs:=by
 unfold o7;split
 ·split
  ·exact .inr ⟨_,_,rfl⟩
  ·exact .inl rfl
 ·exact .inl rfl
theorem HV (s:St) (l:List Rt):calm (o7 s l)=false:=by rcases A6 s l with e|⟨_,_,e⟩<;>rw[e]<;>rfl
theorem FY (s:St) (l ps:List Rt):(o7 s l=.bo ps)=False:=by rcases A6 s l with e|⟨_,_,e⟩<;>rw[e]<;>simp
theorem A7 (s:St) (l:List Rt) (n:Nat):(o7 s l=.al n)=False:=by rcases A6 s l with e|⟨_,_,e⟩<;>rw[e]<;>simp
theorem FX (s:St) (l:List Rt) (n:Nat):(o7 s l=.lw n)=False:=by rcases A6 s l with e|⟨_,_,e⟩<;>rw[e]<;>simp
theorem Um {s s1:St} {kd:Kd} {v:AV} {f:Fq} (h:eL c call kd s=some (v,s1,f)) (hf:calm f=true):Dc s s1 kd f v (eL c call kd):=by
 unfold eL at h;split at h
 ·cases h
 rename_i f0 args ha;split at h
 ·cases h
 rename_i md q hq;split at h
 ·rename_i hm;split at h
  ·cases h
  rename_i uH hz;split at h
  case h_2=>cases h
  rename_i r H' hc;split at h
  case isFalse=>cases h
  rename_i hr;simp at h;obtain⟨rfl,rfl,rfl⟩:=h;refine .still fun t h1 h2=>?_
  have hs:Seen (dn args++Ja args) s t:=by
   by_cases he:(dn args++Ja args).isEmpty=true
   ·rw[fy.1 he]; intro p hp; simp at hp
   ·exact h2.1 _ (by simp[he]<;>simpa using he)
  unfold eL;rw[iY h1,ha];simp only[hq,hm,if_true,LG args hs,hz,hc,hr];simp
 ·rename_i hm;split at h
  ·cases h
  rename_i f1 qP M5;split at h
  case isFalse=>cases h
  rename_i hff;split at h
  ·repeat' split at h
   all_goals first
    |(cases h; done)
    |(simp at h; obtain⟨_,_,rfl⟩:=h; exfalso; simp[calm] at hf; done)
    |(simp at h; obtain⟨_,_,rfl⟩:=h; exfalso; revert hf; split<;>simp[calm])
  ·rename_i jz;split at h
   case isFalse=>cases h
   rename_i hp;split at h
   case h_2=>cases h
   rename_i r H' hc;split at h
   case isFalse=>cases h
   rename_i hr;simp at h;obtain⟨rfl,rfl,rfl⟩:=h
   have he:dn args=[]:=by
    cases hb:dn args with
    |nil=>rfl
    |cons x y=>rw[hb] at hf; simp[HV] at hf
   rw[he] at M5 ⊢;simp only[eE] at M5 ⊢;refine .still fun t h1 h2=>?_;unfold eL;rw[iY h1,ha];simp only[hq,hm,he,eE,bk,if_false];rw[iY h1,M5];simp only[hff,if_true,jz,hp,hc,hr,bk,if_false];simp
theorem A0 {s:St} {kd:Kd} (h:rV c s kd=none) (t:St):rV c t kd=none:=by
 unfold rV at h ⊢;split at h
 ·split at h
  ·rename_i f x es hi;split at h
   ·rename_i he; simp only[hi,he]
   ·cases h
  ·cases h
 ·rfl
theorem FE {s:St} {kd:Kd} (h:po c call s kd=none) (t:St):po c call t kd=none:=by
 unfold po at h ⊢;split at h
 ·rename_i f x es;split at h
  ·cases h
  ·rename_i hl;exact if_neg hl
 ·rfl
theorem ahC {s s1:St} {g:Nat->List AV->List AV->Option (List AV)} {x:AV} {es:List AV} {v:AV} {f:Fq} (h:WX s g x es=some (v,s1,f)):∃sl bs,f=.wr sl bs\/f=.all:=by unfold WX at h;cases h
theorem Ez {s s1:St} {kd:Kd} {v:AV} {f:Fq} (h:rV c s kd=some (some (v,s1,f))):∃sl bs,f=.wr sl bs\/f=.all:=by
 unfold rV at h;split at h
 case h_2=>cases h
 split at h
 case h_1=>
  split at h
  ·cases h
  ·simp only[af] at h;exact ahC h
 simp only[af] at h
 (repeat' split at h)<;>simp at h
 all_goals first
  |exact⟨_,_,.inl h.2.2.symm⟩
  |exact⟨[],none,.inr h.2.2.symm⟩
theorem Fz {amP:Nat->List AV->Heap->Option (AV × Heap)} {s:St} {kd:Kd} (h:vc c call s kd=none) (t:St):vc c amP t kd=none:=by
 unfold vc at h ⊢;split at h
 ·split at h
  ·cases h
  ·rename_i hm;simp only[hm]
 ·rfl
theorem AO {s s1:St} {kd:Kd} {v:AV} {f:Fq} (h:vc c call s kd=some (some (v,s1,f))):f=.all/\∃ k ys,v=.own k ys:=by
 unfold vc at h;split at h
 case h_2=>cases h
 split at h
 case h_2=>cases h
 simp only[af] at h;unfold SM at h
 (repeat' split at h)<;>first
  |(cases h; done)
  |(simp only[af,aC] at h; exact⟨h.2.2.symm,_,_,h.1.symm⟩)
theorem QB {s s1:St} {kd:Kd} {v:AV} {f:Fq} (h:gG c call kd s=some (v,s1,f)) (hf:calm f=true):Dc s s1 kd f v (gG c call kd):=by
 unfold gG at h;cases hm:vc c call s kd with
 |some r=>
   rw[hm] at h;simp only at h;subst h;obtain⟨rfl,_⟩:=AO hm;simp[calm] at hf
 |none=>
   rw[hm] at h;rcases jM h with h|h
   ·obtain⟨T,h1,h2,h3⟩:=Um h hf;refine⟨T,h1,h2,fun t a b d=>?_⟩;unfold gG;rw[Fz hm t];exact tE (h3 t a b d)
   ·obtain⟨rfl,_⟩:=AE h;simp[calm] at hf
theorem EP {s s1:St} {kd:Kd} {v:AV} {f:Fq} (h:dF c call kd s=some (v,s1,f)) (hf:calm f=true):Dc s s1 kd f v (dF c call kd):=by
 unfold dF at h;cases hi:rV c s kd with
 |some r=>
   rw[hi] at h;simp only at h;subst h;obtain⟨sl,bs,rfl|rfl⟩:=Ez hi<;>simp[calm] at hf
 |none=>
   rw[hi] at h;cases hl:po c call s kd with
   |some r=>
     rw[hl] at h;simp only at h;subst h;obtain⟨b,rfl⟩:=IG hl;simp[calm] at hf
   |none=>
     rw[hl] at h;obtain⟨T,h1,h2,h3⟩:=QB h hf;refine⟨T,h1,h2,fun t a b d=>?_⟩;unfold dF;rw[A0 hi t,FE hl t];exact h3 t a b d
end
end Go.Bm

/- Every operation that is calm depends on what it names alone. -/
namespace Go.Bm
open Go.Am
section
variable {P:Program} {c:eI} {call:Nat->List AV->Heap->Option (AV × Heap)}
theorem adJ {s s1:St} {kd:Kd} {v:AV} {f:Fq} (h:fk c call s kd=some (v,s1,f)) (hf:calm f=true):Dc s s1 kd f v (fun t=>fk c call t kd):=by
 have pure:∀{kd:Kd} {v:AV} {s1:St} {f:Fq},(match VZ c s.env kd with
   |some v=>some (v,s,Fq.no)
   |none=>none)=some (v,s1,f)->Dc s s1 kd f v (fun t=>match VZ c t.env kd with
   |some v=>some (v,t,Fq.no)
   |none=>none):=by
  intro kd v s1 f h;split at h
  case h_2=>cases h
  rename_i u hu;simp at h;obtain⟨rfl,rfl,rfl⟩:=h;refine .still fun t h1 _=>?_;simp only[Oa (c:=c) h1,hu]
 cases kd
 case call f0 xs=>simp only[fk] at h ⊢; exact EP h hf
 case jC x xs=>simp only[fk] at h ⊢; exact EP h hf
 case ld ag x=>
  simp only[fk] at h;split at h
  case h_2=>cases h
  rename_i u ps hp;split at h
  case isFalse=>cases h
  rename_i hl;simp at h;obtain⟨rfl,rfl,rfl⟩:=h;refine .still fun t h1 h2=>?_;simp only[fk,cu (c:=c) h1,abD hp h2,hl,if_true]
 case copy k x y=>
  exfalso;simp only[fk] at h
  (repeat' split at h)<;>first
   |(cases h; done)
   |(simp only[af,aC] at h; obtain⟨_,_,rfl⟩:=h; first
     |(simp[calm] at hf; done)
     |(rcases Ac _ _ with e|⟨_,_,_,_,e⟩<;>rw[e] at hf<;>simp[calm] at hf))
 case Na n x hi=>
  simp only[fk] at h;split at h
  ·rename_i b off hx;split at h
   case h_2=>cases h
   rename_i m cs hm hb;split at h
   case isFalse=>cases h
   rename_i hl;simp at h;obtain⟨rfl,rfl,rfl⟩:=h;refine .still fun t h1 h2=>?_;simp only[Kd.reads,aF] at h1;have e:=((h2.1 _ rfl) _ (cU.2 rfl)).2 b 1 rfl;have Wz:Da c t.env n n hi=some m:=by rw[C9 (c:=c) fun i hi=>h1 i (.inr hi)]; exact hm
   simp only[fk,cu (c:=c) fun i hi=>h1 i (.inl hi),hx,Wz,e,hb,hl,if_true]
  ·rename_i iv;split at h
   case h_2=>cases h
   rename_i u hu;simp at h;obtain⟨rfl,rfl,rfl⟩:=h;refine .still fun t h1 _=>?_;have e:=Oa (c:=c) h1;simp only[Kd.reads,aF] at h1;have ex:bp c t.env x=bp c s.env x:=cu (c:=c) fun i hi=>h1 i (.inl hi);simp only[fk,ex,e,hu]
 case new zs=>
  simp only[fk] at h;simp at h;obtain⟨rfl,rfl,rfl⟩:=h;exact⟨_,rfl,.inr ⟨_,rfl,rfl⟩,fun t _ _ h3=>by simp only[fk]; rw[h3 _ rfl]⟩
 case box x=>
  simp only[fk] at h;split at h
  case isFalse=>cases h
  rename_i hl;simp at h;obtain⟨rfl,rfl,rfl⟩:=h;refine⟨_,rfl,.inr ⟨_,rfl,rfl⟩,fun t h1 _ h3=>?_⟩;simp only[fk,cu (c:=c) h1,hl,if_true];rw[h3 _ rfl]
 case dK k n zs ps=>
  simp only[fk] at h;split at h
  case h_2=>cases h
  rename_i cs hc;split at h
  case isFalse=>cases h
  rename_i hz;simp at h;obtain⟨rfl,rfl,rfl⟩:=h
  have he:ig c s.env ps=[]:=by
   cases hb:ig c s.env ps with
   |nil=>rfl
   |cons x y=>rw[hb] at hf; simp[HV] at hf
  rw[he] at hc ⊢;simp only[eE] at hc ⊢;refine .still fun t h1 _=>?_;simp only[fk,tu (c:=c) h1,he,eE,uE (c:=c) h1,hc,hz,if_true];simp
 case st k a v=>
  exfalso;simp only[fk] at h;split at h
  ·split at h
   case h_2=>cases h
   rename_i hh;have h4:=Vu hh;simp only[af,aC] at h;obtain⟨_,_,h5⟩:=h;rw[<-h5] at hf;split at hf
   ·rw[hf] at h4; cases h4
   ·simp[calm] at hf
  ·split at h
   case h_2=>cases h
   rename_i hh;have h4:=Vu hh;simp only[af,aC] at h;obtain⟨_,_,h5⟩:=h;rw[<-h5] at hf;rw[hf] at h4;cases h4
 case app k x y=>
  simp only[fk] at h;split at h
  case h_2=>cases h
  rename_i ys hy;split at h
  case isFalse=>cases h
  rename_i hl;split at h
  ·rename_i k' hx;split at h
   case isFalse=>cases h
   rename_i hle;simp at h;obtain⟨rfl,rfl,rfl⟩:=h;refine .still fun t h1 h2=>?_;simp only[Kd.reads,aF] at h1;simp only[fk];rw[cu (c:=c) fun i hi=>h1 i (.inl hi),cu (c:=c) fun i hi=>h1 i (.inr hi),W7 (h2.1 _ rfl),hy];simp only[hl,if_true,hx,hle]
  ·exfalso
   repeat' split at h
   all_goals first
    |(cases h; done)
    |(simp at h; obtain⟨_,_,rfl⟩:=h; simp[calm] at hf)
  ·cases h
 case P6 k zs l cp=>
  simp only[fk] at h;split at h
  case h_2=>cases h
  rename_i k1 n1 k2 n2 e1 e2;split at h
  case isFalse=>cases h
  rename_i hb;split at h
  ·rename_i z hz;simp at h;obtain⟨rfl,rfl,rfl⟩:=h;refine⟨_,rfl,.inr ⟨_,rfl,rfl⟩,fun t h1 _ h3=>?_⟩;simp only[Kd.reads,aF] at h1;simp only[fk];rw[cu (c:=c) fun i hi=>h1 i (.inl hi),cu (c:=c) fun i hi=>h1 i (.inr hi),e1,e2];simp only[hb,and_self,if_true,hz];rw[h3 _ rfl]
  ·rename_i hz;simp at h;obtain⟨rfl,rfl,rfl⟩:=h;refine .still fun t h1 h2=>?_;simp only[Kd.reads,aF] at h1;simp only[fk];rw[cu (c:=c) fun i hi=>h1 i (.inl hi),cu (c:=c) fun i hi=>h1 i (.inr hi),e1,e2];simp only[hb,and_self,if_true,hz]
 case clr k zs x=>
  simp only[fk] at h;split at h
  case h_3=>cases h
  all_goals
   rename_i e1;simp at h;obtain⟨rfl,rfl,rfl⟩:=h;refine .still fun t h1 h2=>?_;simp only[fk,cu (c:=c) h1,e1]
 case FA=>
  simp only[fk] at h;simp at h;obtain⟨rfl,rfl,rfl⟩:=h;exact⟨_,rfl,.inr ⟨_,rfl,rfl⟩,fun t _ _ h3=>by simp only[fk]; rw[h3 _ rfl]⟩
 case Bs K ok z x k=>
  simp only[fk] at h;split at h
  case h_2=>cases h
  rename_i b e1;split at h
  case h_2=>cases h
  rename_i es e2;split at h
  case isFalse=>cases h
  rename_i hp;split at h
  case h_2=>cases h
  rename_i r e3;split at h
  case isFalse=>cases h
  rename_i hz;simp only[af,aC] at h;obtain⟨rfl,rfl,rfl⟩:=h;refine .still fun t h1 h2=>?_;simp only[Kd.reads,aF] at h1;have e:=((h2.1 _ rfl) _ (cU.2 rfl)).2 b 1 rfl;have ek:bp c t.env k=bp c s.env k:=cu (c:=c) fun i hi=>h1 i (.inr hi);simp only[fk,cu (c:=c) fun i hi=>h1 i (.inl hi),ek,e1,e,e2,hp,and_self,if_true,e3,hz]
 case CH K x k y=>
  exfalso;simp only[fk] at h
  repeat' split at h
  all_goals first
   |(cases h; done)
   |(simp only[af,aC] at h; obtain⟨_,_,rfl⟩:=h; simp[calm] at hf)
 all_goals
  simp only[fk] at h ⊢;exact pure h
end
end Go.Bm

/- A state without shadowed entries: who mentions a place, by what can be read. -/
namespace Go.Bm
open Go.Am
section
def PX:List Nat->Env->Env
 |_,[]=>[]
 |sn,(i,v)::r=>if mem i sn then PX sn r else (i,v)::PX (i::sn) r
theorem Qu:∀(sn:List Nat) (e:Env) (i:Nat),get (PX sn e) i=if mem i sn=true then .any else get e i
 |sn,[],i=>by simp[PX,Am.get]
 |sn,(j,v)::r,i=>by
   unfold PX;by_cases hj:mem j sn=true
   ·rw[if_pos hj,Qu sn r i];by_cases hi:mem i sn=true
    ·simp[hi]
    ·simp only[hi,bk,if_false,Am.get];have:j≠i:=fun e=>hi (e▸hj);have h2:i≠j:=fun e=>this e.symm;simp[hi,h2]
   ·rw[if_neg hj];simp only[Am.get];rw[Qu (j::sn) r i];by_cases Dh:j=i
    ·subst Dh;simp[hj]
    ·have h2:i≠j:=fun e=>Dh e.symm
     have:mem i (j::sn)=mem i sn:=by
      conv=>lhs; unfold mem
      rw[if_neg h2]
     simp only[this,h2,if_false]
theorem UK {f:Rt->Bool}:∀{e:Env} {i:Nat},Ai f (aS (get e i))=true->Mm f e=true
 |[],i,h=>by simp[Am.get,aS,Ai] at h
 |(j,v)::r,i,h=>by
   simp only[Am.get] at h;simp only[Mm,dT];split at h
   ·exact .inl h
   ·exact .inr (UK h)
theorem Ml {f:Rt->Bool}:∀{sn:List Nat} {e:Env},Mm f (PX sn e)=true->∃i,mem i sn=false/\Ai f (aS (Am.get e i))=true
 |sn,[],h=>by simp[PX,Mm] at h
 |sn,(j,v)::r,h=>by
   unfold PX at h;by_cases hj:mem j sn=true
   ·rw[if_pos hj] at h;obtain⟨i,h1,h2⟩:=Ml h;have qd:i≠j:=fun e=>by rw[e,hj] at h1; cases h1
    exact⟨i,h1,by simp only[Am.get]; rw[if_neg qd]; exact h2⟩
   ·rw[if_neg hj] at h;simp only[Mm,dT] at h;rcases h with h|h
    ·exact⟨j,by simpa using hj,by simp only[Am.get,if_true]; exact h⟩
    ·obtain⟨i,h1,h2⟩:=Ml h
     have qd:i≠j:=fun e=>by
      rw[e] at h1;unfold mem at h1;simp at h1
     refine⟨i,?_,by simp only[Am.get]; rw[if_neg qd]; exact h2⟩;unfold mem at h1;rw[if_neg qd] at h1;exact h1
def V9 (s:St):St:=⟨PX [] s.env,s.H⟩
theorem sW (s:St):dS s (V9 s):=⟨fun i=>by simp only[V9]; rw[Qu]; simp[mem],rfl⟩
end
end Go.Bm

/- A step is an operation's value, put to its slot; what a calm operation and one that writes a few places are worth. -/
namespace Go.Bm
open Go.Am
section
variable {P:Program} {c:eI} {call:Nat->List AV->Heap->Option (AV × Heap)}
def HY (c:eI) (call:Nat->List AV->Heap->Option (AV × Heap)) (s:St) (q:O):Option (AV × St × Fq):=
 match q.guard with
 |none=>fk c call s q.kd
 |some (g,want)=>match get s.env g with
   |.bool b=>if b=want then fk c call s q.kd else some (.undef,s,.no)
   |.undef=>some (.undef,s,.no)
   |_=>none
theorem yQ (s:St) (q:O):uh c call s q=match HY c call s q with
  |some (v,s',fl)=>EK s.env q.dst v s' fl
  |none=>none:=by
 unfold uh HY;cases hg:q.guard with
 |none=>rfl
 |some p=>
   obtain⟨g,want⟩:=p;simp only;generalize get s.env g=u;cases u<;>try rfl
   rename_i b;simp only;by_cases hb:b=want
   ·simp only[hb,if_true]; rfl
   ·simp only[hb,if_false]
def ke (s:St) (d:Option Nat) (v:AV):St:=match d with
 |none=>s
 |some d=>⟨put s.env d v,s.H⟩
theorem iz (s:St) (d:Option Nat) (v:AV):(ke s d v).H=s.H:=by cases d<;>rfl
theorem eR (s:St) (d:Option Nat) (v:AV) (i:Nat):get (ke s d v).env i=if d=some i then v else get s.env i:=by
 cases d with
 |none=>simp[ke]
 |some d=>
   simp only[ke,bN];by_cases h:i=d
   ·subst h; simp
   ·have:d≠i:=fun e=>h e.symm;simp[h,this]
theorem abA {s t:St} (h:dS s t) (d:Option Nat) (v:AV):dS (ke s d v) (ke t d v):=
 ⟨fun i=>by rw[eR,eR,h.1 i],by rw[iz,iz]; exact h.2⟩
def Ev (c:eI) (call:Nat->List AV->Heap->Option (AV × Heap)) (s:St) (q:O) (v:AV) (s1:St) (f:Fq):Prop:=
 BT q.kd=true/\∃ s0 t1,dS s s0/\HY c call s0 q=some (v,t1,f)/\dS t1 s1
theorem Ev.same {s t s1 t1:St} {q:O} {v:AV} {f:Fq} (h:Ev c call s q v s1 f) (e:dS s t) (e1:dS s1 t1):Ev c call t q v t1 f:=by
 obtain⟨hk,s0,u1,a,b,d⟩:=h;exact⟨hk,s0,u1,e.symm.trans a,b,d.trans e1⟩
structure Xz (c:eI) (call:Nat->List AV->Heap->Option (AV × Heap)) (s:St) (q:O) (v:AV) (s1:St) (f:Fq) (X:Heap):Prop where
 st:dS s1 ⟨s.env,s.H++X⟩
 nw:(X=[]/\∀ n,f≠.al n)\/∃ z,X=[z]/\f=.al s.H.length
 go:∀t:St,(∀i∈q.reads,fo i (get t.env i)=fo i (get s.env i))->B0 f s t->(∀n,f=.al n->t.H.length=n)->Ev c call t q v ⟨t.env,t.H++X⟩ f
 val:∀V:Rt->Prop,(∀i∈q.reads,(∀p∈aS (get s.env i),¬V p)/\¬ V (.s i)/\∀ j,¬V (.sc i j)) ->
  (∀ps,f=.rd ps->∀b,Rt.c b 0∈ps->∀cs,aJ s.H b=some cs->(∀p∈dn cs,¬V p)/\(bT cs=true->∀j,¬V (.c b j))) ->
  (∀b j,f=.rc b j->∀cs c,aJ s.H b=some cs->cs[j]?=some c->(∀p∈aS c,¬V p)/\(∀k xs,c=.own k xs->¬V (.c b j)))->∀p∈aS v,¬V p
structure LwEv (c:eI) (call:Nat->List AV->Heap->Option (AV × Heap)) (s:St) (q:O) (v:AV) (s1:St) (b:Nat) (cs cs':List AV):Prop where
 bl:aJ s.H b=some cs
 st:dS s1 ⟨s.env,s.H.set b (some cs')⟩
 go:∀t:St,(∀i∈q.reads,get t.env i=get s.env i)->aJ t.H b=some cs->Ev c call t q v ⟨t.env,t.H.set b (some cs')⟩ (.lw b)
structure WrEv (c:eI) (call:Nat->List AV->Heap->Option (AV × Heap)) (s:St) (q:O) (v:AV) (s1:St) (sl:List Nat) (bs:Option (List Nat)) (V:Rt->Prop):Prop where
 env:∀i,i∉sl->i+nK∉sl->get s1.env i=get s.env i
 hd:∀i,i∉sl->fo i (get s1.env i)=fo i (get s.env i)
 keep:∀i,bV (get s.env i)=false->aS (get s.env i)=[]->get s1.env i=get s.env i
 heap:∀l,bs=some l->∀b,pD b l=false->aJ s1.H b=aJ s.H b
 cell:∀l,bs=some l->∀b j,b∉l->yh b j∉l->tU b j s s1/\tU b j s1 s
 v1:∀i,i∉sl->(∀p∈aS (get s.env i),¬V p)/\¬ V (.s i)/\∀ j,¬V (.sc i j)
 v2:∀l,bs=some l->∀b,pD b l=false->b+nK∉l->∀cs,aJ s.H b=some cs->(∀p∈dn cs,¬V p)/\(bT cs=true->∀j,¬V (.c b j))
 v3:∀l,bs=some l->∀b j,b∉l->b+nK∉l->yh b j∉l->∀cs c,aJ s.H b=some cs->cs[j]?=some c->(∀p∈aS c,¬V p)/\(∀k xs,c=.own k xs->¬V (.c b j))
 go:∀d u,d∉q.reads->d∉sl->d+nK∉sl->(∀p∈aS u,¬V p)->∃t1 sl',Ev c call ⟨put s.env d u,s.H⟩ q v t1 (.wr sl' bs)/\(∀i∈sl',i∈sl)/\dS t1 ⟨put s1.env d u,s1.H⟩
end
end Go.Bm

/- Two steps whose order is open commute, given what single operations are worth. -/
namespace Go.Bm
open Go.Am
section
variable {P:Program} {c:eI} {call:Nat->List AV->Heap->Option (AV × Heap)}
def sR (c:eI) (call:Nat->List AV->Heap->Option (AV × Heap)):Prop:=∀s q v s1 f,Ev c call s q v s1 f->calm f=true->∃X,Xz c call s q v s1 f X
def EZ (c:eI) (call:Nat->List AV->Heap->Option (AV × Heap)):Prop:=∀s q v s1 sl bs,Ev c call s q v s1 (.wr sl bs)->∃V,WrEv c call s q v s1 sl bs V
def E3 (c:eI) (call:Nat->List AV->Heap->Option (AV × Heap)):Prop:=∀s q v s1 b,Ev c call s q v s1 (.lw b)->∃cs cs',LwEv c call s q v s1 b cs cs'
theorem alf {s s1:St} {q:O} {v:AV} {f:Fq} (h:HY c call s q=some (v,s1,f)):∀ps,f≠.bo ps:=by
 have fh:∀{kd:Kd} {v:AV} {s1:St} {f:Fq},fk c call s kd=some (v,s1,f)->∀ps,f≠.bo ps:=by
  intro kd v s1 f h ps e;subst e
  have st:∀{s s':St} {k:Nat} {a v:AV},UZ s k a v≠some (s',.bo ps):=by
   intro s s' k a v h;unfold UZ BD at h
   repeat' split at h
   all_goals first
    |(cases h; done)
    |(simp at h; done)
  have ic:∀{kd:Kd},rV c s kd≠some (some (v,s1,.bo ps)):=fun h=>by
   obtain⟨sl,bs,e|e⟩:=Ez h<;>cases e
  have oc:∀{kd:Kd},dF c call kd s≠some (v,s1,.bo ps):=by
   intro kd h;unfold dF at h;split at h
   ·rename_i r hi; subst h; exact ic hi
   split at h
   ·rename_i r hi; subst h; obtain⟨b,e⟩:=IG hi; cases e
   unfold gG at h;split at h
   ·rename_i r hi; subst h; obtain⟨e,_⟩:=AO hi; cases e
   ·replace h:=(jM h).resolve_right fun h=>by obtain⟨e,_⟩:=AE h; cases e
    unfold eL at h
    (repeat' split at h)
    all_goals first
     |(cases h; done)
     |(simp[FY] at h; done)
     |(simp at h; obtain⟨_,_,h5⟩:=h; revert h5; split<;>simp[FY])
  cases kd<;>simp only[fk] at h
  case call=>exact oc h
  case jC=>exact oc h
  case st k a v=>
   split at h
   ·split at h
    case h_2=>cases h
    rename_i hh;simp only[af,aC] at h;obtain⟨_,_,h5⟩:=h;split at h5
    ·rw[h5] at hh; exact st hh
    ·cases h5
   ·split at h
    case h_2=>cases h
    rename_i hh;simp only[af,aC] at h;obtain⟨_,_,h5⟩:=h;rw[h5] at hh;exact st hh
  all_goals
   (repeat' split at h)
   all_goals first
    |(cases h; done)
    |(simp at h; done)
    |(simp[FY] at h; done)
    |(simp at h; obtain⟨_,_,h5⟩:=h; rcases zP _ _ _ with e|⟨b,j,e⟩<;>rw[e] at h5<;>cases h5; done)
    |(simp at h; obtain⟨_,_,h5⟩:=h; rcases Ac _ _ with e|⟨_,_,_,_,e⟩<;>rw[e] at h5<;>cases h5; done)
    |(simp at h; obtain⟨_,_,h5⟩:=h; revert h5; split<;>simp)
 unfold HY at h;split at h
 ·exact fh h
 ·split at h
  ·split at h
   ·exact fh h
   ·simp at h; obtain⟨_,_,rfl⟩:=h; intro ps; simp
  ·simp at h; obtain⟨_,_,rfl⟩:=h; intro ps; simp
  ·cases h
theorem Ev.fl {s s1:St} {q:O} {v:AV} {f:Fq} (h:Ev c call s q v s1 f):∀ps,f≠.bo ps:=let ⟨_,_,_,_,b,_⟩:=h; alf b
theorem jU {e e':Env} {d:Option Nat} {f:Fq} (h:∀i,d=some i->get e i=get e' i):cm e d f=cm e' d f:=by
 unfold cm;cases d with
 |none=>rfl
 |some d=>simp only; rw[h d rfl]
theorem uk {e:Env} {d:Option Nat} {f:Fq} (h:qh (cm e d f)=true):∀i,d=some i->bV (get e i)=false:=by
 rintro i rfl;unfold cm at h;cases hh:bV (get e i) with
 |false=>rfl
 |true=>simp[hh,qh] at h
theorem qu {e:Env} {d:Option Nat} {sl:List Nat} {bs:Option (List Nat)} (h:qh (cm e d (.wr sl bs))=true):cm e d (.wr sl bs)=.wr sl bs/\∀ i,d=some i->bV (get e i)=false/\aS (get e i)=[]:=by
 refine⟨?_,fun i hi=>⟨uk h i hi,?_⟩⟩
 ·unfold cm at h ⊢;cases d with
  |none=>rfl
  |some d=>
    simp only at h ⊢;split at h
    ·simp[qh] at h
    rename_i h1;rw[if_neg h1];split at h
    ·rename_i h2; rw[if_pos h2]
    ·simp[qh] at h
 ·subst hi;unfold cm at h;simp only at h;split at h
  ·simp[qh] at h
  ·split at h
   ·rename_i h2; exact fy.1 h2
   ·simp[qh] at h
theorem yU {e:Env} {d:Option Nat} {b:Nat} (h:qh (cm e d (.lw b))=true):cm e d (.lw b)=.lw b/\∀ i,d=some i->bV (get e i)=false/\aS (get e i)=[]:=by
 refine⟨?_,fun i hi=>⟨uk h i hi,?_⟩⟩
 ·unfold cm at h ⊢;cases d with
  |none=>rfl
  |some d=>
    simp only at h ⊢;split at h
    ·simp[qh] at h
    rename_i h1;rw[if_neg h1];split at h
    ·rename_i h2; rw[if_pos h2]
    ·simp[qh] at h
 ·subst hi;unfold cm at h;simp only at h;split at h
  ·simp[qh] at h
  ·split at h
   ·rename_i h2; exact fy.1 h2
   ·simp[qh] at h
theorem yV {e:Env} {d:Option Nat} {f:Fq} (h:qh (cm e d f)=true):qh f=true:=by
 unfold cm at h;split at h
 ·exact h
 ·split at h
  ·simp[qh] at h
  ·split at h
   ·exact h
   ·split at h
    ·rfl
    ·rfl
    ·rfl
    ·simp[qh] at h
theorem Gj {e e':Env} {d:Option Nat} {sl sl':List Nat} {bs bs':Option (List Nat)} (h:∀i,d=some i->bV (get e i)=false/\aS (get e i)=[]):cm e d (.wr sl bs)=.wr sl bs:=by
 unfold cm;cases d with
 |none=>rfl
 |some d=>simp[h d rfl]
theorem TS.out (HC:sR c call) (HW:EZ c call) (HL:E3 c call) {s s':St} {q:O} {f:Fq} (h:TS c call s q f s') (hf:qh f=true):∃v s1 f1,Ev c call s q v s1 f1/\qh (cm s.env q.dst f1)=true/\Di (cm s.env q.dst f1) f/\dS s' (ke s1 q.dst v):=by
 obtain⟨hk,s0,t1,f0,e0,MV,hle,e1⟩:=h;rw[yQ] at MV;split at MV
 case h_2=>cases MV
 rename_i v u1 f1 he;have hfl:=EJ MV;have hrel:cm s0.env q.dst f1=cm s.env q.dst f1:=jU fun i _=>(e0.1 i).symm
 have hcw:qh (cm s.env q.dst f1)=true:=by
  rw[<-hrel,<-hfl];cases f0<;>cases f<;>simp[Di,qh] at hle hf ⊢
 have hev:Ev c call s q v u1 f1:=⟨hk,s0,u1,e0,he,dS.rfl'⟩;refine⟨v,u1,f1,hev,hcw,by rw[<-hrel,<-hfl]; exact hle,?_⟩;unfold EK at MV;split at MV
 case h_2=>cases MV
 rename_i u2 hp;simp only[af,aC] at MV;obtain⟨rfl,_⟩:=MV;refine e1.symm.trans ?_;cases hd:q.dst with
 |none=>rw[hd] at hp; simp[BR] at hp; subst hp; exact dS.rfl'
 |some d=>
   rw[hd] at hp
   have iv:bV (get u1.env d)=false:=by
    have h0:=uk hcw d hd;have Va:=yV hcw;by_cases T0:calm f1=true
    ·obtain⟨X,hX⟩:=HC _ _ _ _ _ hev T0;rw[hX.st.1 d];exact h0
    ·cases f1<;>simp[calm,qh] at T0 Va
     case wr sl bs=>
      obtain⟨V,hV⟩:=HW _ _ _ _ _ _ hev;have h2:=(qu hcw).2 d hd;rw[hV.keep d h2.1 h2.2];exact h0
     case lw b=>
      obtain⟨cs,cs',hL⟩:=HL _ _ _ _ _ hev;rw[hL.st.1 d];exact h0
     case bo=>exact absurd rfl (hev.fl _)
   simp only[BR,putB,Rm,iv,jc,bk,if_false,af] at hp;subst hp;exact dS.rfl'
theorem TS.mk (HC:sR c call) (HW:EZ c call) (HL:E3 c call) {s s1 s':St} {q:O} {v:AV} {f f1:Fq} (hev:Ev c call s q v s1 f1) (hcw:qh (cm s.env q.dst f1)=true) (hle:Di (cm s.env q.dst f1) f) (hs:dS s' (ke s1 q.dst v)):TS c call s q f s':=by
 have hev':=hev;obtain⟨hk,s0,t1,e0,he,e1⟩:=hev';have hrel:cm s0.env q.dst f1=cm s.env q.dst f1:=jU fun i _=>(e0.1 i).symm
 have wP:BR t1 q.dst v=some (ke t1 q.dst v):=by
  cases hd:q.dst with
  |none=>rfl
  |some d=>
    have iv:bV (get t1.env d)=false:=by
     have h0:=uk hcw d hd;have Va:=yV hcw;rw[e1.1 d];by_cases T0:calm f1=true
     ·obtain⟨X,hX⟩:=HC _ _ _ _ _ hev T0;rw[hX.st.1 d];exact h0
     ·cases f1<;>simp[calm,qh] at T0 Va
      case wr sl bs=>
       obtain⟨V,hV⟩:=HW _ _ _ _ _ _ hev;have h2:=(qu hcw).2 d hd;rw[hV.keep d h2.1 h2.2];exact h0
      case lw b=>
       obtain⟨cs,cs',hL⟩:=HL _ _ _ _ _ hev;rw[hL.st.1 d];exact h0
      case bo=>exact absurd rfl (hev.fl _)
    simp only[BR,putB,Rm,iv,jc,bk,if_false,ke]
 refine⟨hk,s0,ke t1 q.dst v,cm s.env q.dst f1,e0,?_,hle,(abA e1 _ _).trans hs.symm⟩;rw[yQ,he];simp only[EK,wP,hrel]
end
end Go.Bm

/- Two steps whose order is open commute. -/
namespace Go.Bm
open Go.Am
section
variable {P:Program} {c:eI} {call:Nat->List AV->Heap->Option (AV × Heap)}
theorem gh {d:Nat}:∀{ps:List Rt},iu d ps=true->∀p∈ps,(∀i,p=.s i->i≠d)/\∀ i j,p=.sc i j->i≠d
 |[],_,p,hp=>by simp at hp
 |q::r,h,p,hp=>by
   have ih:iu d r=true->p∈r->_:=fun h hp=>gh (d:=d) h p hp;rcases aG.1 hp with e|e
   ·subst e;cases p with
    |s i=>simp only[iu,ae,decide_eq_true_eq] at h; exact⟨(fun k hk=>by cases hk; exact h.1),fun k j hk=>by cases hk⟩
    |sc i j=>simp only[iu,ae,decide_eq_true_eq] at h; exact⟨(fun k hk=>by cases hk),fun k l hk=>(by cases hk; exact h.1)⟩
    |c b j=>exact⟨(fun k hk=>by cases hk),fun k l hk=>by cases hk⟩
   ·have h':iu d r=true:=by
     cases q<;>simp only[iu,ae] at h
     ·exact h.2
     ·exact h.2
     ·exact h
    exact ih h' e
theorem xf {sl:List Nat} {bs:Option (List Nat)}:∀{ps:List Rt},rY sl bs ps=true->∀p∈ps,(∀i,p=.s i->i∉sl/\i+nK∉sl)/\(∀i j,p=.sc i j->i∉sl/\i+nK∉sl)/\∀ b j,p=.c b j->∃l,bs=some l/\pD b l=false/\(j=0->b+nK∉l)
 |[],_,p,hp=>by simp at hp
 |q::r,h,p,hp=>by
   have nm:∀{i:Nat} {l:List Nat},mem i l=false->i∉l:=fun h hi=>by rw[mem_iff.2 hi] at h; cases h
   rcases aG.1 hp with e|e
   ·subst e;cases p with
    |s i=>simp only[rY,ae,bJ] at h; exact⟨fun k hk=>(by cases hk; exact⟨nm h.1.1,nm h.1.2⟩),(fun k j hk=>by cases hk),fun k j hk=>by cases hk⟩
    |sc i j=>simp only[rY,ae,bJ] at h; exact⟨(fun k hk=>by cases hk),(fun k l hk=>(by cases hk; exact⟨nm h.1.1,nm h.1.2⟩)),fun k j hk=>by cases hk⟩
    |c b j=>
      simp only[rY,ae] at h;refine⟨(fun k hk=>by cases hk),(fun k l hk=>by cases hk),fun k l hk=>?_⟩;cases hk;cases bs with
      |none=>simp at h
      |some l=>
        simp only[ae,bJ,dT,decide_eq_true_eq] at h;exact⟨l,rfl,h.1.1,fun e=>h.1.2.elim (fun q=>absurd e q) nm⟩
   ·have h':rY sl bs r=true:=by
     cases q<;>simp only[rY,ae] at h<;>exact h.2
    exact xf h' p e
theorem KJ {sl:List Nat}:∀{l:List Nat},KK sl l=true->∀i∈l,i∉sl
 |[],_,i,hi=>by simp at hi
 |j::r,h,i,hi=>by
   simp only[KK,ae,bJ] at h;rcases aG.1 hi with e|e
   ·subst e; intro hm; rw[mem_iff.2 hm] at h; cases h.1
   ·exact KJ h.2 i e
theorem oR {n:Nat}:∀{ps:List Rt},ij n ps=true->∀b j,Rt.c b j∈ps->b<n
 |[],_,b,j,h=>by simp at h
 |q::r,h,b,j,hp=>by
   rcases aG.1 hp with e|e
   ·subst e; simp only[ij,ae,decide_eq_true_eq] at h; exact h.1
   ·have h':ij n r=true:=by cases q<;>simp only[ij,ae] at h<;>first|exact h|exact h.2
    exact oR h' b j e
theorem Seen.mk' {ps:List Rt} {s t:St} (h1:∀p∈ps,(∀i,p=.s i->get t.env i=get s.env i)/\(∀i j,p=.sc i j->get t.env i=get s.env i)/\∀ b j,p=.c b j->aJ t.H b=aJ s.H b):Seen ps s t:=by
 intro p hp;obtain⟨a,b,d⟩:=h1 p hp;refine⟨?_,fun k l e=>d k l e⟩;cases p with
 |s i=>simp only[az,at_]; rw[a i rfl]
 |sc i j=>simp only[az,at_]; rw[b i j rfl]
 |c k j=>simp only[az,at_]; rw[d k j rfl]
theorem Ah {x y:O} (h:jZ x y=true):(∀i,x.dst=some i->i∉y.reads/\y.dst≠some i)/\∀ i,y.dst=some i->i∉x.reads/\x.dst≠some i:=by
 have nm:∀{i:Nat} {l:List Nat},mem i l=false->i∉l:=fun h hi=>by rw[mem_iff.2 hi] at h; cases h
 unfold jZ at h;simp only[ae] at h;obtain⟨h1,h2⟩:=h;refine⟨fun i hi=>?_,fun i hi=>?_⟩
 ·rw[hi] at h1;simp only[ae,bJ,decide_eq_true_eq] at h1;exact⟨nm h1.1,h1.2⟩
 ·rw[hi] at h2;simp only[bJ] at h2;refine⟨nm h2,fun e=>?_⟩;rw[e] at h1;simp only[ae,bJ,decide_eq_true_eq] at h1;exact h1.2 hi
def Fi:Fq->List Rt
 |.rd ps=>ps
 |.bo ps=>ps
 |.rc b _=>[.c b 0]
 |_=>[]
theorem pH {e:Env} {d:Option Nat} {f:Fq} (h:qh (cm e d f)=true) (hc:calm f=true):Fi (cm e d f)=Fi f/\(∀n,f=.al n->cm e d f=.al n)/\(∀n,cm e d f=.al n->f=.al n)/\((∀ps,cm e d f≠.bo ps)->cm e d f=f/\∀ i,d=some i->aS (get e i)=[]):=by
 unfold cm at h ⊢;cases d with
 |none=>exact⟨rfl,fun n h=>h,fun n h=>h,fun _=>⟨rfl,fun i hi=>by cases hi⟩⟩
 |some d=>
   simp only at h ⊢;split at h
   ·simp[qh] at h
   rename_i h1;rw[if_neg h1];split at h
   ·rename_i h2;rw[if_pos h2];exact⟨rfl,fun n h=>h,fun n h=>h,fun _=>⟨rfl,fun i hi=>by cases hi; exact fy.1 h2⟩⟩
   ·rename_i h2;rw[if_neg h2];cases f<;>simp[calm,qh] at hc h ⊢<;>simp[Fi]
theorem Di.cw {f g:Fq} (h:Di f g) (hg:qh g=true):(∀sl bs,f≠.wr sl bs)->f=g:=by
 intro hn;cases f<;>cases g<;>simp[Di,qh] at h hg hn ⊢<;>exact h
theorem Oc {f g:Fq} (h:f.ok g=true):qh f=true/\qh g=true:=by
 cases f<;>cases g<;>simp[Fq.ok,qh] at h ⊢
theorem ad3 {f g:Fq} {n m:Nat} (h:f.ok g=true) (hf:f=.al n):g≠.al m:=by
 subst hf; intro e; subst e; simp[Fq.ok] at h
theorem adN {f g:Fq} {n:Nat} (h:f.ok g=true) (hf:f=.al n):ij n (Fi g)=true:=by
 subst hf; cases g<;>simp[Fq.ok,Fi,ij] at h ⊢<;>exact h
theorem Z5 {f g:Fq} {n:Nat} (h:f.ok g=true) (hg:g=.al n):ij n (Fi f)=true:=by
 subst hg; cases f<;>simp[Fq.ok,Fi,ij] at h ⊢<;>exact h
theorem iZ {d:Option Nat} {f:Fq} (h:C4 d f=true) (hf:qh f=true):∀i,d=some i->iu i (Fi f)=true:=by
 rintro i rfl;cases f<;>simp[C4,Fi,iu] at h ⊢<;>exact h
theorem Nh {sl:List Nat} {bs:Option (List Nat)} {y:O} {g:Fq} (h:Ni (.wr sl bs) y g=true):(∀i∈y.reads,i∉sl)/\(∀i,y.dst=some i->i∉sl/\i+nK∉sl)/\(∀ps,g=.rd ps->rY sl bs ps=true)/\∀ b j,g=.rc b j->∃l,bs=some l/\b∉l/\b+nK∉l/\yh b j∉l:=by
 have nm:∀{i:Nat} {l:List Nat},mem i l=false->i∉l:=fun h hi=>by rw[mem_iff.2 hi] at h; cases h
 simp only[Ni,ae] at h;obtain⟨⟨h1,h2⟩,h3⟩:=h;refine⟨KJ h1,fun i hi=>?_,fun ps hp=>?_,fun b j hp=>?_⟩
 ·rw[hi] at h2; simp only[ae,bJ] at h2; exact⟨nm h2.1,nm h2.2⟩
 ·subst hp; exact h3
 ·subst hp;cases bs with
  |none=>simp[QL] at h3
  |some l=>
    simp only[QL,ae,bJ] at h3;exact⟨l,rfl,nm h3.1,nm h3.2.1,nm h3.2.2⟩
theorem Bh {H X:Heap} {b:Nat} (h:b<H.length):aJ (H++X) b=aJ H b:=by
 unfold aJ; rw[List.getElem?_append_left h]
theorem vX {b:Nat}:∀{l:List Nat},pD b l=true ↔ ∃x∈l,x=b\/Qf b x=true
 |[]=>by simp[pD]
 |x::r=>by
   simp only[pD,dT,decide_eq_true_eq,vX (l:=r),aG,exists_eq_or_imp];exact⟨fun h=>h.elim (fun h=>.inl (.inl h)) (fun h=>h.elim (fun h=>.inl (.inr h)) .inr),fun h=>h.elim (fun h=>h.elim .inl (fun h=>.inr (.inl h))) (fun h=>.inr (.inr h))⟩
theorem Pc {b:Nat} {l l':List Nat} (h:∀x∈l,x∈l') (hb:pD b l'=false):pD b l=false:=by
 cases e:pD b l with
 |false=>rfl
 |true=>
   obtain⟨x,h1,h2⟩:=vX.1 e;rw[vX.2 ⟨x,h x h1,h2⟩] at hb;cases hb
theorem p8 {b:Nat} {l:List Nat} (h:pD b l=false):b∉l/\∀ j,yh b j∉l:=by
 refine⟨fun hb=>?_,fun j hb=>?_⟩
 ·rw[vX.2 ⟨b,hb,.inl rfl⟩] at h; cases h
 ·rw[vX.2 ⟨_,hb,.inr (by
   unfold Qf yh UW;simp only[ae,decide_eq_true_eq];refine⟨by omega,by omega,?_⟩;rw[Nat.add_sub_cancel_left];exact Nat.mul_mod_left _ _)⟩] at h
  cases h
theorem tU.of_eq {b j:Nat} {s t:St} (h:aJ t.H b=aJ s.H b):tU b j s t:=fun cs hc=>⟨cs,by rw[h]; exact hc,rfl⟩
theorem ab0 (HC:sR c call) (HW:EZ c call) (HL:E3 c call) {s s1 s2 u1 u2:St} {x y:O} {f g f1 g1:Fq} {vx vy:AV} (hx:Ev c call s x vx u1 f1) (hfx:qh (cm s.env x.dst f1)=true) (FV:Di (cm s.env x.dst f1) f) (hs1:dS s1 (ke u1 x.dst vx)) (hy:Ev c call s1 y vy u2 g1) (hgy:qh (cm s1.env y.dst g1)=true) (FU:Di (cm s1.env y.dst g1) g) (U6:dS s2 (ke u2 y.dst vy)) (U9:calm f1=true) (M0:calm g1=true) (FW:jZ x y=true) (dm:jq x f y g=true) :
  ∃ ML,TS c call s y g ML/\TS c call ML x f s2:=by
 obtain⟨ax,ay⟩:=Ah FW;simp only[jq,ae] at dm;obtain⟨⟨dm,hd1,HO⟩,_⟩:=dm;obtain⟨cf,cg⟩:=Oc dm;obtain⟨X,hX⟩:=HC _ _ _ _ _ hx U9;obtain⟨Y,hY⟩:=HC _ _ _ _ _ hy M0;obtain⟨r1,r2,r3,_⟩:=pH hfx U9;obtain⟨q1,q2,q3,_⟩:=pH hgy M0
 have nwx:∀sl bs,cm s.env x.dst f1≠.wr sl bs:=fun sl bs e=>by
  have:=yV hfx;unfold cm at e;cases f1<;>simp[calm] at U9<;>(repeat' split at e)<;>simp_all
 have nwy:∀sl bs,cm s1.env y.dst g1≠.wr sl bs:=fun sl bs e=>by
  unfold cm at e;cases g1<;>simp[calm] at M0<;>(repeat' split at e)<;>simp_all
 have ef:cm s.env x.dst f1=f:=FV.cw cf nwx;have eg:cm s1.env y.dst g1=g:=FU.cw cg nwy;have HU:∀i,get s1.env i=if x.dst=some i then vx else get s.env i:=fun i=>by rw[hs1.1,eR,hX.st.1]
 have H1:s1.H=s.H++X:=by rw[hs1.2,iz,hX.st.2]
 have QA:∀i,x.dst=some i->y.dst≠some i:=fun i h=>(ax i h).2
 -- y from s
 have yr:∀i∈y.reads,get s.env i=get s1.env i:=fun i hi=>by
  rw[HU,if_neg];intro e;exact (ax i e).1 hi
 have Dm:∀ps,g1=.rd ps->Seen ps s1 s:=fun ps yy=>by
  have zV:Fi g=ps:=by rw[<-eg,q1,yy]; rfl
  refine Seen.mk' fun p hp=>⟨fun i e=>?_,fun i j e=>?_,fun b j e=>?_⟩
  ·rw[HU,if_neg];intro e2;have:=iZ hd1 cg i e2;rw[zV] at this;exact (gh this p hp).1 i e rfl
  ·rw[HU,if_neg];intro e2;have:=iZ hd1 cg i e2;rw[zV] at this;exact (gh this p hp).2 i j e rfl
  ·subst e;rw[H1];rcases hX.nw with⟨e,_⟩|⟨z,e,e2⟩
   ·rw[e]; simp
   ·have:=adN dm (by rw[<-ef]; exact r2 _ e2);rw[zV] at this;exact (Bh (oR this b j hp)).symm
 have Dm:B0 g1 s1 s:=⟨Dm,fun b j hg=>by
  refine .of_eq ?_;rw[H1];rcases hX.nw with⟨e,_⟩|⟨z,e,e2⟩
  ·rw[e]; simp
  ·have:=adN dm (by rw[<-ef]; exact r2 _ e2);rw[show Fi g=[.c b 0] by rw[<-eg,q1,hg]; rfl] at this;exact (Bh (oR this b 0 (by simp))).symm⟩
 have yal:∀n,g1=.al n->s.H.length=n:=fun n hn=>by
  rcases hX.nw with⟨e,_⟩|⟨z,e,e2⟩
  ·rcases hY.nw with⟨e3,e4⟩|⟨z3,e3,e4⟩
   ·exact absurd hn (e4 n)
   ·rw[e4] at hn; cases hn; rw[H1,e]; simp
  ·exfalso;exact ad3 dm (by rw[<-ef]; exact r2 _ e2) (by rw[<-eg]; exact q2 n hn)
 have Lk:=hY.go s (fun i hi=>by rw[yr i hi]) Dm yal
 have gy:∀i,y.dst=some i->get s1.env i=get s.env i:=fun i hi=>by
  rw[HU,if_neg];intro e;exact QA i e hi
 have XP:cm s.env y.dst g1=cm s1.env y.dst g1:=jU fun i hi=>(gy i hi).symm;refine⟨ke ⟨s.env,s.H++Y⟩ y.dst vy,TS.mk HC HW HL Lk (by rw[XP]; exact hgy) (by rw[XP]; exact FU) dS.rfl',?_⟩
 -- x from there
 generalize ht:ke ⟨s.env,s.H++Y⟩ y.dst vy=t;have gt:∀i,get t.env i=if y.dst=some i then vy else get s.env i:=fun i=>by rw[<-ht,eR]
 have Ht:t.H=s.H++Y:=by rw[<-ht,iz]
 have Hl:s.H.length<=s1.H.length:=by rw[H1]; simp
 have xr:∀i∈x.reads,get t.env i=get s.env i:=fun i hi=>by
  rw[gt,if_neg];intro e;exact (ay i e).1 hi
 have Dn:∀ps,f1=.rd ps->Seen ps s t:=fun ps yy=>by
  have zV:Fi f=ps:=by rw[<-ef,r1,yy]; rfl
  refine Seen.mk' fun p hp=>⟨fun i e=>?_,fun i j e=>?_,fun b j e=>?_⟩
  ·rw[gt,if_neg];intro e2;have:=iZ HO cf i e2;rw[zV] at this;exact (gh this p hp).1 i e rfl
  ·rw[gt,if_neg];intro e2;have:=iZ HO cf i e2;rw[zV] at this;exact (gh this p hp).2 i j e rfl
  ·subst e;rw[Ht];rcases hY.nw with⟨e,_⟩|⟨z,e,e2⟩
   ·rw[e]; simp
   ·have h6:=Z5 dm (by rw[<-eg]; exact q2 _ e2);rw[zV] at h6;have h7:=oR h6 b j hp;rcases hX.nw with⟨e3,_⟩|⟨z3,e3,e4⟩
    ·rw[H1,e3] at h7;exact Bh (by simpa using h7)
    ·rw[yy] at e4; cases e4
 have Dn:B0 f1 s t:=⟨Dn,fun b j hg=>by
  refine .of_eq ?_;rw[Ht];rcases hY.nw with⟨e,_⟩|⟨z,e,e2⟩
  ·rw[e]; simp
  ·have h6:=Z5 dm (by rw[<-eg]; exact q2 _ e2);rw[show Fi f=[.c b 0] by rw[<-ef,r1,hg]; rfl] at h6;have h7:=oR h6 b 0 (by simp);rcases hX.nw with⟨e3,_⟩|⟨z3,e3,e4⟩
   ·rw[H1,e3] at h7;exact Bh (by simpa using h7)
   ·rw[hg] at e4; cases e4⟩
 have xal:∀n,f1=.al n->t.H.length=n:=fun n hn=>by
  rcases hX.nw with⟨_,e⟩|⟨z,e,e2⟩
  ·exact absurd hn (e n)
  ·rcases hY.nw with⟨e3,_⟩|⟨z3,e3,e4⟩
   ·rw[Ht,e3]; rw[hn] at e2; cases e2; simp
   ·exfalso;exact ad3 dm (by rw[<-ef]; exact r2 _ hn) (by rw[<-eg]; exact q2 _ e4)
 have MT:=hX.go t (fun i hi=>by rw[xr i hi]) Dn xal
 have gx:∀i,x.dst=some i->get t.env i=get s.env i:=fun i hi=>by
  rw[gt,if_neg];exact QA i hi
 have XQ:cm t.env x.dst f1=cm s.env x.dst f1:=jU gx;refine TS.mk HC HW HL MT (by rw[XQ]; exact hfx) (by rw[XQ]; exact FV) ⟨fun i=>?_,?_⟩
 ·rw[U6.1,eR,hY.st.1,eR];show (if y.dst=some i then vy else get s1.env i)=(if x.dst=some i then vx else get t.env i);rw[HU,gt];by_cases e1:x.dst=some i
  ·have:=QA i e1;simp[e1,this]
  ·simp[e1]
 ·rw[U6.2,iz,hY.st.2,iz];show s1.H++Y=t.H++X;rw[H1,Ht];rcases hX.nw with⟨e,_⟩|⟨z,e,e2⟩
  ·rw[e]; simp
  ·rcases hY.nw with⟨e3,_⟩|⟨z3,e3,e4⟩
   ·rw[e3]; simp
   ·exact absurd (by rw[<-eg]; exact q2 _ e4) (ad3 dm (by rw[<-ef]; exact r2 _ e2))
theorem Di.sub {sl sl':List Nat} {bs bs':Option (List Nat)} (h:Di (.wr sl bs) (.wr sl' bs')):∀i∈sl,i∈sl':=h.1
theorem Di.Ng {f:Fq} {sl:List Nat} {bs:Option (List Nat)} (h:Di (.wr sl bs) f) (hc:qh f=true):∃sl' bs',f=.wr sl' bs':=by
 cases f<;>simp[Di,qh] at h hc ⊢
theorem aml {f:Fq} {sl:List Nat} {bs:Option (List Nat)} (h:f.ok (.wr sl bs)=true):(∀ps,f≠.bo ps)/\(∀n,f≠.al n):=by
 cases f<;>simp[Fq.ok] at h ⊢
theorem adL {f:Fq} {sl:List Nat} {bs:Option (List Nat)} (h:Fq.ok (.wr sl bs) f=true):(∀ps,f≠.bo ps)/\(∀n,f≠.al n)/\∀ sl bs,f≠.wr sl bs:=by
 cases f<;>simp[Fq.ok] at h ⊢
theorem ahI (HC:sR c call) (HW:EZ c call) (HL:E3 c call) {s s1 s2 u1 u2:St} {x y:O} {f g f1:Fq} {sl0:List Nat} {L7:Option (List Nat)} {vx vy:AV} (hx:Ev c call s x vx u1 f1) (hfx:qh (cm s.env x.dst f1)=true) (FV:Di (cm s.env x.dst f1) f) (hs1:dS s1 (ke u1 x.dst vx)) (hy:Ev c call s1 y vy u2 (.wr sl0 L7)) (hgy:qh (cm s1.env y.dst (.wr sl0 L7))=true) (FU:Di (cm s1.env y.dst (.wr sl0 L7)) g) (U6:dS s2 (ke u2 y.dst vy)) (U9:calm f1=true) (FW:jZ x y=true) (dm:jq x f y g=true) :
  ∃ ML,TS c call s y g ML/\TS c call ML x f s2:=by
 obtain⟨ax,ay⟩:=Ah FW;simp only[jq,ae] at dm;obtain⟨⟨dm,hd1,HO⟩,_,hw⟩:=dm;obtain⟨cf,cg⟩:=Oc dm;obtain⟨X,hX⟩:=HC _ _ _ _ _ hx U9;obtain⟨V,hV⟩:=HW _ _ _ _ _ _ hy;obtain⟨r1,r2,r3,r4⟩:=pH hfx U9;obtain⟨q1,q2⟩:=qu hgy;rw[q1] at FU;obtain⟨sl,bs,rfl⟩:=FU.Ng cg;obtain⟨o1,o2⟩:=aml dm
 have nwx:∀sl bs,cm s.env x.dst f1≠.wr sl bs:=fun sl bs e=>by
  unfold cm at e;cases f1<;>simp[calm] at U9<;>(repeat' split at e)<;>simp_all
 have ef:cm s.env x.dst f1=f:=FV.cw cf nwx;obtain⟨e1,hbx⟩:=r4 (fun ps e=>o1 ps (ef▸e));have ef':f1=f:=e1▸ef
 have hX0:X=[]:=by
  rcases hX.nw with⟨e,_⟩|⟨z,e,e2⟩
  ·exact e
  ·exact absurd (ef'▸e2) (o2 _)
 subst hX0;obtain⟨w1,w2,w3,w4⟩:=Nh hw;have sub:∀{i:Nat},i∉sl->i∉sl0:=fun h hi=>h (FU.sub _ hi);have QA:∀i,x.dst=some i->y.dst≠some i:=fun i h=>(ax i h).2;have HU:∀i,get s1.env i=if x.dst=some i then vx else get s.env i:=fun i=>by rw[hs1.1,eR,hX.st.1]
 have H1:s1.H=s.H:=by rw[hs1.2,iz,hX.st.2]; simp
 -- y from s
 have A5:∃t1 sl',Ev c call s y vy t1 (.wr sl' L7)/\(∀i∈sl',i∈sl0)/\(∀i,get t1.env i=if x.dst=some i then get s.env i else get u2.env i)/\t1.H=u2.H:=by
  cases hd:x.dst with
  |none=>
    refine⟨u2,sl0,hy.same ⟨fun i=>?_,H1⟩ dS.rfl',fun i hi=>hi,fun i=>by simp,rfl⟩;rw[HU,hd]; simp
  |some d=>
    obtain⟨t1,sl',h1,h2,h3⟩:=hV.go d (get s.env d) (fun h=>(ax d hd).1 h) (sub (w2 d hd).1) (sub (w2 d hd).2) (fun p hp=>by rw[hbx d hd] at hp; simp at hp);refine⟨t1,sl',h1.same ⟨fun i=>?_,H1⟩ dS.rfl',h2,fun i=>?_,h3.2⟩
    ·show get (put s1.env d (get s.env d)) i=get s.env i;rw[bN];split
     ·rename_i e; rw[e]
     ·rename_i e;rw[HU,hd,if_neg];simp; exact fun h=>e h.symm
    ·rw[h3.1];show get (put u2.env d (get s.env d)) i=_;rw[bN];by_cases e:i=d
     ·subst e; simp
     ·have:d≠i:=fun h=>e h.symm;simp[e,this]
 obtain⟨t1,sl',Lk,hsl',gt1,Ht1⟩:=A5
 have gy:∀i,y.dst=some i->get s1.env i=get s.env i:=fun i hi=>by
  rw[HU,if_neg];intro e;exact QA i e hi
 have XP:cm s.env y.dst (.wr sl' L7)=.wr sl' L7:=Gj (sl':=sl') (bs':=L7) (e':=s.env) fun i hi=>by rw[<-gy i hi]; exact q2 i hi
 have ley:Di (.wr sl' L7) (.wr sl bs):=⟨fun i hi=>FU.1 i (hsl' i hi),FU.2⟩;refine⟨ke t1 y.dst vy,TS.mk HC HW HL Lk (by rw[XP]; rfl) (by rw[XP]; exact ley) dS.rfl',?_⟩;generalize ht:ke t1 y.dst vy=t;have gt:∀i,get t.env i=if y.dst=some i then vy else if x.dst=some i then get s.env i else get u2.env i:=fun i=>by rw[<-ht,eR,gt1]
 have Ht:t.H=u2.H:=by rw[<-ht,iz,Ht1]
 have M9:∀i,i∉sl->i+nK∉sl->y.dst≠some i->get t.env i=get s.env i:=fun i hi hi2 hd=>by
  rw[gt,if_neg hd];split
  ·rfl
  ·rename_i e;rw[hV.env i (sub hi) (sub hi2),HU,if_neg e]
 have afC:∀i,i∉sl->y.dst≠some i->fo i (get t.env i)=fo i (get s.env i):=fun i hi hd=>by
  rw[gt,if_neg hd];split
  ·rfl
  ·rename_i e;rw[hV.hd i (sub hi),HU,if_neg e]
 have xr:∀i∈x.reads,fo i (get t.env i)=fo i (get s.env i):=fun i hi=>afC i (w1 i hi) fun e=>(ay i e).1 hi
 have Dn:∀ps,f1=.rd ps->Seen ps s t:=fun ps yy=>by
  have zV:f=.rd ps:=by rw[<-ef']; exact yy
  refine Seen.mk' fun p hp=>?_;obtain⟨a1,a2,a3⟩:=xf (w3 ps zV) p hp
  have ns:∀i,y.dst=some i->(∀k,p=.s k->k≠i)/\∀ k j,p=.sc k j->k≠i:=fun i hi=>by
   have:=iZ HO cf i hi;rw[zV] at this;exact gh this p hp
  refine⟨fun i e=>M9 i (a1 i e).1 (a1 i e).2 fun h=>(ns i h).1 i e rfl,fun i j e=>M9 i (a2 i j e).1 (a2 i j e).2 fun h=>(ns i h).2 i j e rfl,fun b j e=>?_⟩;obtain⟨l,e5,e6,_⟩:=a3 b j e;subst e5;have h8:=FU.2;cases L7 with
  |none=>simp at h8
  |some l0=>
    rw[Ht,hV.heap l0 rfl b (Pc h8 e6),H1]
 have Dn:B0 f1 s t:=⟨Dn,fun b j yy=>by
  have zV:f=.rc b j:=by rw[<-ef']; exact yy
  obtain⟨l,e5,e6,e7,e8⟩:=w4 b j zV;subst e5;have h8:=FU.2;cases L7 with
  |none=>simp at h8
  |some l0=>
    have h9:=(hV.cell l0 rfl b j (fun h=>e6 (h8 b h)) (fun h=>e8 (h8 _ h))).1;intro cs hc;rw[<-H1] at hc;rw[Ht];exact h9 cs hc⟩
 have xal:∀n,f1=.al n->t.H.length=n:=fun n hn=>absurd (ef'▸hn) (o2 n);have MT:=hX.go t xr Dn xal;have gx:∀i,x.dst=some i->get t.env i=get s.env i:=fun i hi=>M9 i (w2 i hi).1 (w2 i hi).2 (QA i hi);have XQ:cm t.env x.dst f1=cm s.env x.dst f1:=jU gx;refine TS.mk HC HW HL MT (by rw[XQ]; exact hfx) (by rw[XQ]; exact FV) ⟨fun i=>?_,?_⟩
 ·rw[U6.1,eR,eR];show (if y.dst=some i then vy else get u2.env i)=(if x.dst=some i then vx else get t.env i);rw[gt];by_cases e1:x.dst=some i
  ·have:=QA i e1;simp only[e1,this,if_true,if_false];rw[hV.env i (sub (w2 i e1).1) (sub (w2 i e1).2),HU,if_pos e1]
  ·simp[e1]
 ·rw[U6.2,iz,iz];show u2.H=t.H++[];rw[Ht]; simp
theorem ahG (HC:sR c call) (HW:EZ c call) (HL:E3 c call) {s s1 s2 u1 u2:St} {x y:O} {f g g1:Fq} {sl0:List Nat} {L7:Option (List Nat)} {vx vy:AV} (hx:Ev c call s x vx u1 (.wr sl0 L7)) (hfx:qh (cm s.env x.dst (.wr sl0 L7))=true) (FV:Di (cm s.env x.dst (.wr sl0 L7)) f) (hs1:dS s1 (ke u1 x.dst vx)) (hy:Ev c call s1 y vy u2 g1) (hgy:qh (cm s1.env y.dst g1)=true) (FU:Di (cm s1.env y.dst g1) g) (U6:dS s2 (ke u2 y.dst vy)) (M0:calm g1=true) (FW:jZ x y=true) (dm:jq x f y g=true) :
  ∃ ML,TS c call s y g ML/\TS c call ML x f s2:=by
 obtain⟨ax,ay⟩:=Ah FW;simp only[jq,ae] at dm;obtain⟨⟨dm,hd1,HO⟩,hw,_⟩:=dm;obtain⟨cf,cg⟩:=Oc dm;obtain⟨V,hV⟩:=HW _ _ _ _ _ _ hx;obtain⟨Y,hY⟩:=HC _ _ _ _ _ hy M0;obtain⟨r1,r2⟩:=qu hfx;obtain⟨q1,q2,q3,q4⟩:=pH hgy M0;rw[r1] at FV;obtain⟨sl,bs,rfl⟩:=FV.Ng cf;obtain⟨o1,o2,_⟩:=adL dm
 have nwy:∀sl bs,cm s1.env y.dst g1≠.wr sl bs:=fun sl bs e=>by
  unfold cm at e;cases g1<;>simp[calm] at M0<;>(repeat' split at e)<;>simp_all
 have eg:cm s1.env y.dst g1=g:=FU.cw cg nwy;obtain⟨e1,_⟩:=q4 (fun ps e=>o1 ps (eg▸e));have eg':g1=g:=e1▸eg
 have hY0:Y=[]:=by
  rcases hY.nw with⟨e,_⟩|⟨z,e,e2⟩
  ·exact e
  ·exact absurd (eg'▸e2) (o2 _)
 subst hY0;obtain⟨w1,w2,w3,w4⟩:=Nh hw;have sub:∀{i:Nat},i∉sl->i∉sl0:=fun h hi=>h (FV.sub _ hi);have QA:∀i,x.dst=some i->y.dst≠some i:=fun i h=>(ax i h).2;have HU:∀i,get s1.env i=if x.dst=some i then vx else get u1.env i:=fun i=>by rw[hs1.1,eR]
 have H1:s1.H=u1.H:=by rw[hs1.2,iz]
 have M9:∀i,i∉sl->i+nK∉sl->x.dst≠some i->get s.env i=get s1.env i:=fun i hi hi2 hd=>by rw[HU,if_neg hd,hV.env i (sub hi) (sub hi2)]
 have afC:∀i,i∉sl->x.dst≠some i->fo i (get s.env i)=fo i (get s1.env i):=fun i hi hd=>by rw[HU,if_neg hd,hV.hd i (sub hi)]
 have ai3:∀b j,g1=.rc b j->∃l,L7=some l/\b∉l/\b+nK∉l/\yh b j∉l:=fun b j yy=>by
  obtain⟨l,e5,e6,e7,e8⟩:=w4 b j (by rw[<-eg']; exact yy);subst e5;have h8:=FV.2;cases L7 with
  |none=>simp at h8
  |some l0=>exact⟨l0,rfl,fun h=>e6 (h8 b h),fun h=>e7 (h8 _ h),fun h=>e8 (h8 _ h)⟩
 have boxes:∀{ps:List Rt},g1=.rd ps->∀b j,Rt.c b j∈ps->∃l,L7=some l/\pD b l=false/\(j=0->b+nK∉l):=fun{ps} yy b j hp=>by
  have zV:g=.rd ps:=by rw[<-eg']; exact yy
  obtain⟨_,_,a3⟩:=xf (w3 ps zV) _ hp;obtain⟨l,e5,e6,e7⟩:=a3 b j rfl;subst e5;have h8:=FV.2;cases L7 with
  |none=>simp at h8
  |some l0=>exact⟨l0,rfl,Pc h8 e6,fun e h=>e7 e (h8 _ h)⟩
 have yr:∀i∈y.reads,fo i (get s.env i)=fo i (get s1.env i):=fun i hi=>afC i (w1 i hi) fun e=>(ax i e).1 hi
 have Dm:∀ps,g1=.rd ps->Seen ps s1 s:=fun ps yy=>by
  have zV:g=.rd ps:=by rw[<-eg']; exact yy
  refine Seen.mk' fun p hp=>?_;obtain⟨a1,a2,_⟩:=xf (w3 ps zV) p hp
  have ns:∀i,x.dst=some i->(∀k,p=.s k->k≠i)/\∀ k j,p=.sc k j->k≠i:=fun i hi=>by
   have:=iZ hd1 cg i hi;rw[zV] at this;exact gh this p hp
  refine⟨fun i e=>M9 i (a1 i e).1 (a1 i e).2 fun h=>(ns i h).1 i e rfl,fun i j e=>M9 i (a2 i j e).1 (a2 i j e).2 fun h=>(ns i h).2 i j e rfl,fun b j e=>?_⟩;subst e;obtain⟨l,e5,e6,_⟩:=boxes yy b j hp;rw[H1,hV.heap l e5 b e6]
 have Dm:B0 g1 s1 s:=⟨Dm,fun b j yy=>by
  obtain⟨l,e5,e6,e7,e8⟩:=ai3 b j yy;intro cs hc;rw[H1] at hc;exact (hV.cell l e5 b j e6 e8).2 cs hc⟩
 have yal:∀n,g1=.al n->s.H.length=n:=fun n hn=>absurd (eg'▸hn) (o2 n);have Lk:=hY.go s yr Dm yal;have gy:∀i,y.dst=some i->get s1.env i=get s.env i:=fun i hi=>(M9 i (w2 i hi).1 (w2 i hi).2 (fun e=>QA i e hi)).symm;have XP:cm s.env y.dst g1=cm s1.env y.dst g1:=jU fun i hi=>(gy i hi).symm;refine⟨ke ⟨s.env,s.H++[]⟩ y.dst vy,TS.mk HC HW HL Lk (by rw[XP]; exact hgy) (by rw[XP]; exact FU) dS.rfl',?_⟩
 have alN:∀p∈aS vy,¬V p:=by
  obtain⟨Y',hYs⟩:=HC _ _ _ _ _ Lk M0;refine hYs.val V (fun i hi=>hV.v1 i (sub (w1 i hi))) (fun ps yy b hp cs hb=>?_) fun b j yy cs c0 hb hc=>?_
  ·obtain⟨l0,e5,e6,e7⟩:=boxes yy b 0 hp;exact hV.v2 l0 e5 b e6 (e7 rfl) cs hb
  ·obtain⟨l0,e5,e6,e7,e8⟩:=ai3 b j yy;exact hV.v3 l0 e5 b j e6 e7 e8 cs c0 hb hc
 have A5:∃t1 sl',Ev c call (ke ⟨s.env,s.H++[]⟩ y.dst vy) x vx t1 (.wr sl' L7)/\(∀i∈sl',i∈sl0)/\dS t1 (ke u1 y.dst vy):=by
  cases hd:y.dst with
  |none=>exact⟨u1,sl0,hx.same ⟨fun i=>rfl,by simp[ke]⟩ dS.rfl',fun i hi=>hi,dS.rfl'⟩
  |some d=>
    obtain⟨t1,sl',h1,h2,h3⟩:=hV.go d vy (fun h=>(ay d hd).1 h) (sub (w2 d hd).1) (sub (w2 d hd).2) alN;exact⟨t1,sl',h1.same ⟨fun i=>rfl,by simp[ke]⟩ dS.rfl',h2,h3⟩
 obtain⟨t1,sl',MT,hsl',ht1⟩:=A5;have gx:∀i,x.dst=some i->get (ke ⟨s.env,s.H++[]⟩ y.dst vy).env i=get s.env i:=fun i hi=>by rw[eR,if_neg (QA i hi)]
 have XQ:cm (ke ⟨s.env,s.H++[]⟩ y.dst vy).env x.dst (.wr sl' L7)=.wr sl' L7:=Gj (sl':=sl') (bs':=L7) (e':=s.env) fun i hi=>by rw[gx i hi]; exact r2 i hi
 have lex:Di (.wr sl' L7) (.wr sl bs):=⟨fun i hi=>FV.1 i (hsl' i hi),FV.2⟩;refine TS.mk HC HW HL MT (by rw[XQ]; rfl) (by rw[XQ]; exact lex) ⟨fun i=>?_,?_⟩
 ·rw[U6.1,eR,hY.st.1,eR,ht1.1,eR];show (if y.dst=some i then vy else get s1.env i)=(if x.dst=some i then vx else if y.dst=some i then vy else get u1.env i);rw[HU];by_cases e1:x.dst=some i
  ·have:=QA i e1;simp[e1,this]
  ·simp[e1]
 ·rw[U6.2,iz,hY.st.2,iz,ht1.2,iz];show s1.H++[]=u1.H;rw[H1]; simp
theorem Di.SV {f:Fq} {b:Nat} (h:Di (.lw b) f) (hc:qh f=true):f=.lw b:=by
 cases f<;>simp[Di,qh] at h hc ⊢
 exact h.symm
theorem aiS {f:Fq} {b:Nat} (h:f.ok (.lw b)=true):(∀ps,f≠.bo ps)/\(∀n,f=.al n->b<n)/\(∀ps,f=.rd ps->tA b ps=true)/\(∀d j,f=.rc d j->d≠b)/\(∀sl bs,f≠.wr sl bs)/\∀ d,f≠.lw d:=by
 cases f<;>simp[Fq.ok] at h ⊢<;>exact h
theorem adU {f:Fq} {b:Nat} (h:Fq.ok (.lw b) f=true):(∀ps,f≠.bo ps)/\(∀n,f=.al n->b<n)/\(∀ps,f=.rd ps->tA b ps=true)/\(∀d j,f=.rc d j->d≠b)/\(∀sl bs,f≠.wr sl bs)/\∀ d,f≠.lw d:=by
 cases f<;>simp[Fq.ok] at h ⊢<;>exact h
theorem CF {b:Nat}:∀{ps:List Rt},tA b ps=true->∀d j,Rt.c d j∈ps->d≠b
 |[],_,d,j,h=>by simp at h
 |q::r,h,d,j,hp=>by
   rcases aG.1 hp with e|e
   ·subst e; simp only[tA,ae,decide_eq_true_eq] at h; exact h.1
   ·have h':tA b r=true:=by cases q<;>simp only[tA,ae] at h<;>first|exact h|exact h.2
    exact CF h' d j e
theorem ahJ (HC:sR c call) (HW:EZ c call) (HL:E3 c call) {s s1 s2 u1 u2:St} {x y:O} {f g f1:Fq} {b:Nat} {vx vy:AV} (hx:Ev c call s x vx u1 f1) (hfx:qh (cm s.env x.dst f1)=true) (FV:Di (cm s.env x.dst f1) f) (hs1:dS s1 (ke u1 x.dst vx)) (hy:Ev c call s1 y vy u2 (.lw b)) (hgy:qh (cm s1.env y.dst (.lw b))=true) (FU:Di (cm s1.env y.dst (.lw b)) g) (U6:dS s2 (ke u2 y.dst vy)) (U9:calm f1=true) (FW:jZ x y=true) (dm:jq x f y g=true) :
  ∃ ML,TS c call s y g ML/\TS c call ML x f s2:=by
 obtain⟨ax,ay⟩:=Ah FW;simp only[jq,ae] at dm;obtain⟨⟨dm,hd1,HO⟩,_⟩:=dm;obtain⟨cf,cg⟩:=Oc dm;obtain⟨X,hX⟩:=HC _ _ _ _ _ hx U9;obtain⟨cs,cs',hY⟩:=HL _ _ _ _ _ hy;obtain⟨r1,r2,r3,r4⟩:=pH hfx U9;obtain⟨q1,q2⟩:=yU hgy;have hly':=FU;rw[q1] at hly';have hg:=hly'.SV cg;subst hg;obtain⟨o1,o2,o3,o4,_,_⟩:=aiS dm
 have nwx:∀sl bs,cm s.env x.dst f1≠.wr sl bs:=fun sl bs e=>by
  unfold cm at e;cases f1<;>simp[calm] at U9<;>(repeat' split at e)<;>simp_all
 have ef:cm s.env x.dst f1=f:=FV.cw cf nwx;obtain⟨e1,_⟩:=r4 (fun ps e=>o1 ps (ef▸e));have ef':f1=f:=e1▸ef;subst ef';have HU:∀i,get s1.env i=if x.dst=some i then vx else get s.env i:=fun i=>by rw[hs1.1,eR,hX.st.1]
 have H1:s1.H=s.H++X:=by rw[hs1.2,iz,hX.st.2]
 have QA:∀i,x.dst=some i->y.dst≠some i:=fun i h=>(ax i h).2
 have blt:b<s.H.length:=by
  have h1:=dL hY.bl;rcases hX.nw with⟨e,_⟩|⟨z,e,e2⟩
  ·rw[H1,e] at h1; simpa using h1
  ·exact o2 _ e2
 have M3:aJ s.H b=some cs:=by
  have h1:=hY.bl;rw[H1,Bh blt] at h1;exact h1
 have yr:∀i∈y.reads,get s.env i=get s1.env i:=fun i hi=>by
  rw[HU,if_neg];intro e;exact (ax i e).1 hi
 have Lk:=hY.go s yr M3
 have gy:∀i,y.dst=some i->get s1.env i=get s.env i:=fun i hi=>by
  rw[HU,if_neg];intro e;exact QA i e hi
 have XP:cm s.env y.dst (.lw b)=cm s1.env y.dst (.lw b):=jU fun i hi=>(gy i hi).symm;refine⟨ke ⟨s.env,s.H.set b (some cs')⟩ y.dst vy,TS.mk HC HW HL Lk (by rw[XP]; exact hgy) (by rw[XP]; exact FU) dS.rfl',?_⟩;generalize ht:ke ⟨s.env,s.H.set b (some cs')⟩ y.dst vy=t;have gt:∀i,get t.env i=if y.dst=some i then vy else get s.env i:=fun i=>by rw[<-ht,eR]
 have Ht:t.H=s.H.set b (some cs'):=by rw[<-ht,iz]
 have xr:∀i∈x.reads,get t.env i=get s.env i:=fun i hi=>by
  rw[gt,if_neg];intro e;exact (ay i e).1 hi
 have hbx:∀d,d≠b->aJ t.H d=aJ s.H d:=fun d hd=>by rw[Ht,dz,if_neg (fun h=>hd h.1)]
 have Dn:B0 f1 s t:=by
  refine⟨fun ps yy=>Seen.mk' fun p hp=>⟨fun i e=>?_,fun i j e=>?_,fun d j e=>?_⟩,fun d j hf=>.of_eq (hbx d (o4 d j hf))⟩
  ·rw[gt,if_neg];intro e2;have:=iZ HO cf i e2;rw[yy] at this;exact (gh (show iu i ps=true from this) p hp).1 i e rfl
  ·rw[gt,if_neg];intro e2;have:=iZ HO cf i e2;rw[yy] at this;exact (gh (show iu i ps=true from this) p hp).2 i j e rfl
  ·subst e;exact hbx d (CF (o3 ps yy) d j hp)
 have xal:∀n,f1=.al n->t.H.length=n:=fun n hn=>by
  rcases hX.nw with⟨_,e⟩|⟨z,e,e2⟩
  ·exact absurd hn (e n)
  ·rw[hn] at e2; cases e2; rw[Ht]; simp
 have MT:=hX.go t (fun i hi=>by rw[xr i hi]) Dn xal
 have gx:∀i,x.dst=some i->get t.env i=get s.env i:=fun i hi=>by
  rw[gt,if_neg];exact QA i hi
 have XQ:cm t.env x.dst f1=cm s.env x.dst f1:=jU gx;refine TS.mk HC HW HL MT (by rw[XQ]; exact hfx) (by rw[XQ]; exact FV) ⟨fun i=>?_,?_⟩
 ·rw[U6.1,eR,hY.st.1,eR];show (if y.dst=some i then vy else get s1.env i)=if x.dst=some i then vx else get t.env i;rw[HU,gt];by_cases h1:x.dst=some i
  ·simp[h1,QA i h1]
  ·simp[h1]
 ·rw[U6.2,iz,hY.st.2,iz];show s1.H.set b (some cs')=t.H++X;rw[H1,Ht,XB _ _ blt]
theorem ahH (HC:sR c call) (HW:EZ c call) (HL:E3 c call) {s s1 s2 u1 u2:St} {x y:O} {f g g1:Fq} {b:Nat} {vx vy:AV} (hx:Ev c call s x vx u1 (.lw b)) (hfx:qh (cm s.env x.dst (.lw b))=true) (FV:Di (cm s.env x.dst (.lw b)) f) (hs1:dS s1 (ke u1 x.dst vx)) (hy:Ev c call s1 y vy u2 g1) (hgy:qh (cm s1.env y.dst g1)=true) (FU:Di (cm s1.env y.dst g1) g) (U6:dS s2 (ke u2 y.dst vy)) (M0:calm g1=true) (FW:jZ x y=true) (dm:jq x f y g=true) :
  ∃ ML,TS c call s y g ML/\TS c call ML x f s2:=by
 obtain⟨ax,ay⟩:=Ah FW;simp only[jq,ae] at dm;obtain⟨⟨dm,hd1,HO⟩,_⟩:=dm;obtain⟨cf,cg⟩:=Oc dm;obtain⟨cs,cs',hX⟩:=HL _ _ _ _ _ hx;obtain⟨Y,hY⟩:=HC _ _ _ _ _ hy M0;obtain⟨q1,q2⟩:=yU hfx;have hlx':=FV;rw[q1] at hlx';have hf:=hlx'.SV cf;subst hf;obtain⟨o1,o2,o3,o4,_,_⟩:=adU dm;obtain⟨r1,r2,r3,r4⟩:=pH hgy M0
 have nwy:∀sl bs,cm s1.env y.dst g1≠.wr sl bs:=fun sl bs e=>by
  unfold cm at e;cases g1<;>simp[calm] at M0<;>(repeat' split at e)<;>simp_all
 have eg:cm s1.env y.dst g1=g:=FU.cw cg nwy;obtain⟨e1,_⟩:=r4 (fun ps e=>o1 ps (eg▸e));have eg':g1=g:=e1▸eg;subst eg';have HU:∀i,get s1.env i=if x.dst=some i then vx else get s.env i:=fun i=>by rw[hs1.1,eR,hX.st.1]
 have H1:s1.H=s.H.set b (some cs'):=by rw[hs1.2,iz,hX.st.2]
 have QA:∀i,x.dst=some i->y.dst≠some i:=fun i h=>(ax i h).2;have blt:b<s.H.length:=dL hX.bl;have hbx:∀d,d≠b->aJ s.H d=aJ s1.H d:=fun d hd=>by rw[H1,dz,if_neg (fun h=>hd h.1)]
 have yr:∀i∈y.reads,get s.env i=get s1.env i:=fun i hi=>by
  rw[HU,if_neg];intro e;exact (ax i e).1 hi
 have Dm:B0 g1 s1 s:=by
  refine⟨fun ps yy=>Seen.mk' fun p hp=>⟨fun i e=>?_,fun i j e=>?_,fun d j e=>?_⟩,fun d j hf=>.of_eq (hbx d (o4 d j hf))⟩
  ·rw[HU,if_neg];intro e2;have:=iZ hd1 cg i e2;rw[yy] at this;exact (gh (show iu i ps=true from this) p hp).1 i e rfl
  ·rw[HU,if_neg];intro e2;have:=iZ hd1 cg i e2;rw[yy] at this;exact (gh (show iu i ps=true from this) p hp).2 i j e rfl
  ·subst e;exact hbx d (CF (o3 ps yy) d j hp)
 have yal:∀n,g1=.al n->s.H.length=n:=fun n hn=>by
  rcases hY.nw with⟨_,e⟩|⟨z,e,e2⟩
  ·exact absurd hn (e n)
  ·rw[hn] at e2; cases e2; rw[H1]; simp
 have Lk:=hY.go s (fun i hi=>by rw[yr i hi]) Dm yal
 have gy:∀i,y.dst=some i->get s1.env i=get s.env i:=fun i hi=>by
  rw[HU,if_neg];intro e;exact QA i e hi
 have XP:cm s.env y.dst g1=cm s1.env y.dst g1:=jU fun i hi=>(gy i hi).symm;refine⟨ke ⟨s.env,s.H++Y⟩ y.dst vy,TS.mk HC HW HL Lk (by rw[XP]; exact hgy) (by rw[XP]; exact FU) dS.rfl',?_⟩;generalize ht:ke ⟨s.env,s.H++Y⟩ y.dst vy=t;have gt:∀i,get t.env i=if y.dst=some i then vy else get s.env i:=fun i=>by rw[<-ht,eR]
 have Ht:t.H=s.H++Y:=by rw[<-ht,iz]
 have xr:∀i∈x.reads,get t.env i=get s.env i:=fun i hi=>by
  rw[gt,if_neg];intro e;exact (ay i e).1 hi
 have MT:=hX.go t xr (by rw[Ht,Bh blt]; exact hX.bl)
 have gx:∀i,x.dst=some i->get t.env i=get s.env i:=fun i hi=>by
  rw[gt,if_neg];exact QA i hi
 have XQ:cm t.env x.dst (.lw b)=cm s.env x.dst (.lw b):=jU gx;refine TS.mk HC HW HL MT (by rw[XQ]; exact hfx) (by rw[XQ]; exact FV) ⟨fun i=>?_,?_⟩
 ·rw[U6.1,eR,hY.st.1,eR];show (if y.dst=some i then vy else get s1.env i)=if x.dst=some i then vx else get t.env i;rw[HU,gt];by_cases h1:x.dst=some i
  ·simp[h1,QA i h1]
  ·simp[h1]
 ·rw[U6.2,iz,hY.st.2,iz];show s1.H++Y=t.H.set b (some cs');rw[H1,Ht,XB _ _ blt]
theorem alh (HC:sR c call) (HW:EZ c call) (HL:E3 c call):UT (TS c call):=by
 intro s x f s1 y g s2 hx hy FW dm;have MX:=dm;simp only[jq,ae] at MX;obtain⟨cf,cg⟩:=Oc MX.1.1;obtain⟨vx,u1,f1,x1,x2,x3,x4⟩:=hx.out HC HW HL cf;obtain⟨vy,u2,g1,y1,y2,y3,y4⟩:=hy.out HC HW HL cg;have c1:=yV x2;have c2:=yV y2;by_cases U9:calm f1=true
 ·by_cases M0:calm g1=true
  ·exact ab0 HC HW HL x1 x2 x3 x4 y1 y2 y3 y4 U9 M0 FW dm
  ·cases g1<;>simp[calm,qh] at M0 c2
   case wr sl bs=>exact ahI HC HW HL x1 x2 x3 x4 y1 y2 y3 y4 U9 FW dm
   case bo=>exact absurd rfl (y1.fl _)
   case lw b=>exact ahJ HC HW HL x1 x2 x3 x4 y1 y2 y3 y4 U9 FW dm
 ·cases f1<;>simp[calm,qh] at U9 c1
  case wr sl bs=>
   by_cases M0:calm g1=true
   ·exact ahG HC HW HL x1 x2 x3 x4 y1 y2 y3 y4 M0 FW dm
   ·cases g1<;>simp[calm,qh] at M0 c2
    case wr sl' bs'=>
     exfalso;rw[(qu x2).1] at x3;rw[(qu y2).1] at y3;obtain⟨_,_,rfl⟩:=x3.Ng cf;obtain⟨_,_,rfl⟩:=y3.Ng cg;exact (adL MX.1.1).2.2 _ _ rfl
    case bo=>exact absurd rfl (y1.fl _)
    case lw b=>
     exfalso;rw[(qu x2).1] at x3;rw[(yU y2).1] at y3;obtain⟨_,_,rfl⟩:=x3.Ng cf;have:=y3.SV cg;subst this;exact (aiS MX.1.1).2.2.2.2.1 _ _ rfl
  case bo=>exact absurd rfl (x1.fl _)
  case lw b=>
   by_cases M0:calm g1=true
   ·exact ahH HC HW HL x1 x2 x3 x4 y1 y2 y3 y4 M0 FW dm
   ·exfalso;rw[(yU x2).1] at x3;have hf:=x3.SV cf;subst hf;obtain⟨_,_,_,_,o5,o6⟩:=adU MX.1.1;cases g1<;>simp[calm,qh] at M0 c2
    case wr sl' bs'=>
     rw[(qu y2).1] at y3;obtain⟨_,_,rfl⟩:=y3.Ng cg;exact o5 _ _ rfl
    case bo=>exact absurd rfl (y1.fl _)
    case lw d=>
     rw[(yU y2).1] at y3;exact o6 _ (y3.SV cg)
end
end Go.Bm

/- What the value of a calm operation mentions was read. -/
namespace Go.Bm
open Go.Am
section
variable {P:Program} {c:eI} {call:Nat->List AV->Heap->Option (AV × Heap)} {V:Rt->Prop}
def QQ (V:Rt->Prop) (x:AV):Prop:=∀p∈aS x,¬V p
theorem lr {p:Rt}:∀{cs:List AV},p∈dn cs ↔ ∃x∈cs,p∈aS x
 |[]=>by simp[dn]
 |x::r=>by simp[dn,lr (cs:=r)]
theorem FI {f:Nat->Rt} {p:Rt}:∀{cs:List AV} {j:Nat},p∈dn (fc f j cs)->p∈dn cs\/∃ i,p=f i
 |[],j,h=>by simp[fc,dn] at h
 |x::r,j,h=>by
   have ih:=fun h=>FI (f:=f) (p:=p) (cs:=r) (j:=j+1) h;cases x<;>simp only[fc,dn,aS,aF,List.nil_append,aG,List.not_mem_nil,or_false] at h ih ⊢
   case own k xs=>
    rcases h with h|h
    ·exact .inr ⟨j,h⟩
    ·exact ih h
   all_goals first
    |exact ih h
    | (rcases h with h | h
       ·exact .inl (.inl h)
       ·rcases ih h with h|h
        ·exact .inl (.inr h)
        ·exact .inr h)
theorem aer {i:Nat} {x:AV} {p:Rt} (h:p∈aS (fo i x)):p∈aS x\/p=.s i\/∃ j,p=.sc i j:=by
 cases x<;>simp only[fo] at h
 case own k xs=>simp[aS] at h; exact .inr (.inl h)
 case agg cs=>
  simp only[aS] at h ⊢;rcases FI h with h|h
  ·exact .inl h
  ·exact .inr (.inr h)
 all_goals exact .inl h
def Ip (V:Rt->Prop) (env:Env) (l:List Nat):Prop:=∀i∈l,(∀p∈aS (get env i),¬V p)/\¬ V (.s i)/\∀ j,¬V (.sc i j)
theorem Ip.left {env:Env} {l m:List Nat} (h:Ip V env (l++m)):Ip V env l:=fun i hi=>h i (by simp[hi])
theorem Ip.right {env:Env} {l m:List Nat} (h:Ip V env (l++m)):Ip V env m:=fun i hi=>h i (by simp[hi])
theorem lX {env:Env} {x:E} (hk:kE x=true) (h:Ip V env x.slot):QQ V (bp c env x):=by
 intro p hp;cases x with
 |t i=>
   simp only[bp] at hp;obtain⟨h1,h2,h3⟩:=h i (by simp[E.slot]);rcases aer hp with e|e|⟨j,e⟩
   ·exact h1 p e
   ·subst e; exact h2
   ·subst e; exact h3 j
 |k x=>simp only[bp] at hp; simp only[kE,fy] at hk; rw[hk] at hp; simp at hp
 |g i=>simp[bp,aS] at hp
theorem KB {env:Env}:∀{xs:List E},kEs xs=true->Ip V env (pw xs)->∀p∈dn (dC c env xs),¬V p
 |[],_,_,p,hp=>by simp[dC,dn] at hp
 |x::r,hk,h,p,hp=>by
   simp only[kEs,ae] at hk;simp only[pw] at h;simp only[dC,dn,aF] at hp;rcases hp with hp|hp
   ·exact lX hk.1 h.left p hp
   ·exact KB hk.2 h.right p hp
theorem QQ.cells {x:AV} (h:QQ V x):∀d∈x.cells,QQ V d:=by
 intro d hd p hp;by_cases ha:∃cs,x=.agg cs
 ·obtain⟨cs,rfl⟩:=ha;exact h p (by simp only[aS]; exact lr.2 ⟨d,hd,hp⟩)
 ·have:x.cells=[x]:=by cases x<;>first|rfl|exact absurd ⟨_,rfl⟩ ha
  rw[this] at hd;simp at hd;subst hd;exact h p hp
theorem Ui {env:Env}:∀{ps:List (Nat × Nat × E)} {zs cs:List AV},kPs ps=true->Ip V env (th ps)->(∀d∈zs,QQ V d)->sE c env zs ps=some cs->∀d∈cs,QQ V d
 |[],zs,cs,_,_,hz,hf=>by simp[sE] at hf; subst hf; exact hz
 |(o,n,x)::r,zs,cs,hk,h,hz,hf=>by
   simp only[kPs,ae] at hk;simp only[th] at h;simp only[sE] at hf;split at hf
   case isFalse=>cases hf
   refine Ui hk.2 h.right (fun d hd=>?_) hf;unfold j9 at hd;simp only[aF] at hd;rcases hd with (hd|hd)|hd
   ·exact hz d (dh hd)
   ·exact (lX hk.1 h.left).cells d hd
   ·exact hz d (di hd)
theorem ajm {ag:Option Nat} {cs:List AV} {v:AV} (h:∀d∈cs,QQ V d) (hv:Fj ag cs=some v):QQ V v:=by
 unfold Fj at hv;split at hv
 ·split at hv
  ·simp at hv; subst hv;intro p hp;simp only[aS] at hp;obtain⟨d,hd,hp⟩:=lr.1 hp;exact h d (dh hd) p hp
  ·cases hv
 ·exact h v (List.mem_of_mem_head? hv)
theorem VN {ag:Option Nat} {cs:List AV} {v:AV} (h:∀d∈cs,QQ V d) (hv:PJ ag cs=some v):QQ V v:=by
 unfold PJ at hv;split at hv
 ·rename_i u hu;split at hv
  ·cases hv
  ·simp at hv; subst hv; exact ajm h hu
 ·cases hv
theorem QQ.nil {v:AV} (h:aS v=[]):QQ V v:=fun p hp=>by rw[h] at hp; simp at hp
theorem afB {op:BinOp} {x y v:AV} (h:sP op x y=some v):aS v=[]:=by
 rcases abc h with⟨_,_,⟨_,_,rfl⟩|⟨_,rfl⟩⟩|⟨_,_,_,rfl⟩<;>rfl
theorem afV {op:UnOp} {x v:AV} (h:Vr op x=some v):aS v=[]:=by
 unfold Vr at h;split at h<;>simp at h<;>(subst h; rfl)
theorem SN {mx:Bool}:∀{r:List AV} {k:IntKind} {a:Int} {v:AV},CM mx (.int k a) r=some v->aS v=[]
 |[],k,a,v,h=>by simp[CM] at h; subst h; rfl
 |y::r,k,a,v,h=>by
   cases y<;>simp only[CM] at h<;>try (cases h; done)
   exact SN h
theorem SO {mx:Bool} {l:List AV} {v:AV} (h:Br mx l=some v):aS v=[]:=by
 unfold Br at h;split at h
 ·exact SN h
 ·cases h
theorem akd {env:Env} {kd:Kd} {v:AV} (hv:VZ c env kd=some v) (hk:BT kd=true) (h:Ip V env kd.reads):QQ V v:=by
 cases kd<;>simp only[VZ] at hv<;>simp only[BT,ae] at hk<;>simp only[Kd.reads] at h
 case mv x=>simp at hv; subst hv; exact lX hk h
 case pick t a b=>
  split at hv
  ·simp at hv; subst hv;split
   ·exact lX hk.2.1 h.right.left
   ·exact lX hk.2.2 h.right.right
  ·cases hv
 case build zs ps=>
  split at hv
  ·rename_i cs hf;simp at hv; subst hv
   have hz:∀d∈zs,QQ V d:=fun d hd p hp=>by
    have:=lr.2 ⟨d,hd,hp⟩;rw[fy.1 hk.1] at this;simp at this
   intro p hp;simp only[aS] at hp;obtain⟨d,hd,hp⟩:=lr.1 hp;exact Ui hk.2 h hz hf d hd p hp
  ·cases hv
 case oS x=>
  have ho:=lX (c:=c) hk h;split at hv
  ·simp at hv; subst hv; exact .nil rfl
  ·simp at hv; subst hv; exact .nil rfl
  ·rename_i e;simp at hv; subst hv;rw[e] at ho; exact ho
  ·cases hv
 case bin=>exact .nil (afB hv)
 case eq=>split at hv<;>simp at hv; subst hv; exact .nil rfl
 case un=>exact .nil (afV hv)
 case Q5=>split at hv<;>simp at hv; subst hv; exact .nil rfl
 case U0 fn a b=>
  split at hv
  ·cases hv
  ·simp at hv; subst hv;intro p hp;simp only[aS,aF] at hp;rcases hp with hp|hp
   ·exact KB hk.1 h.left p hp
   ·exact KB hk.2 h.right p hp
 case Fc k x lo hi=>
  have ho:=lX (c:=c) hk.1 h.left;split at hv
  case h_2=>cases hv
  split at hv
  case h_2=>cases hv
  split at hv
  case h_2=>cases hv
  split at hv
  ·split at hv<;>simp at hv; subst hv; exact .nil rfl
  ·split at hv<;>simp at hv; subst hv; exact .nil rfl
  ·rename_i e;rw[e] at ho;split at hv<;>simp at hv; subst hv
   intro p hp; exact ho p (by simpa[aS] using hp)
  ·split at hv<;>simp at hv; subst hv; exact .nil rfl
  ·cases hv
 case Na n x hi=>
  cases hi with
  |some y=>simp at hv
  |none=>
  (repeat' split at hv)<;>simp at hv
  obtain⟨_,rfl⟩:=hv;exact .nil rfl
 case yf off x=>
  have ho:=lX (c:=c) hk h;split at hv
  ·simp at hv; subst hv; exact .nil rfl
  ·simp at hv; subst hv; exact .nil rfl
  ·rename_i e;rw[e] at ho;simp at hv; subst hv;intro p hp; exact ho p (by simpa[aS] using hp)
  ·cases hv
 case fld off ag x=>
  have ho:=lX (c:=c) hk h;split at hv
  ·rename_i cs e;rw[e] at ho;exact VN (fun d hd p hp=>ho p (by simp only[aS]; exact lr.2 ⟨d,di hd,hp⟩)) hv
  ·cases hv
 case qc k x i=>
  have ho:=lX (c:=c) hk.1 h.left;split at hv
  ·(repeat' split at hv)<;>simp at hv; subst hv; exact .nil rfl
  ·rename_i e;rw[e] at ho
   (repeat' split at hv)<;>simp at hv; subst hv
   intro p hp; exact ho p (by simpa[aS] using hp)
  ·(repeat' split at hv)<;>simp at hv; subst hv; exact .nil rfl
  ·cases hv
 case Ic n k x i=>
  have ho:=lX (c:=c) hk.1 h.left;split at hv
  case h_2=>cases hv
  split at hv
  ·simp at hv; subst hv; exact .nil rfl
  ·simp at hv; subst hv; exact .nil rfl
  ·rename_i e;rw[e] at ho;simp at hv; subst hv;intro p hp; exact ho p (by simpa[aS] using hp)
  ·cases hv
 case ix n k ag x i=>
  have ho:=lX (c:=c) hk.1 h.left;split at hv
  case h_2=>cases hv
  split at hv
  ·rename_i cs e;rw[e] at ho;exact VN (fun d hd p hp=>ho p (by simp only[aS]; exact lr.2 ⟨d,di hd,hp⟩)) hv
  ·cases hv
 case ixs tab i=>(repeat' split at hv)<;>simp at hv; subst hv; exact .nil rfl
 case ext i x=>
  have ho:=lX (c:=c) hk h;split at hv
  ·rename_i vs e;rw[e] at ho;split at hv
   ·rename_i u hu;split at hv<;>simp at hv; subst hv
    intro p hp; exact ho p (by simp only[aS]; exact lr.2 ⟨u,bn hu,hp⟩)
   ·cases hv
  ·cases hv
 case len=>split at hv<;>simp at hv; subst hv; exact .nil rfl
 case min=>exact .nil (SO hv)
 case max=>exact .nil (SO hv)
 all_goals (cases hv; done)
mutual
theorem O3:∀x,clean x=true->aS x=[]
 |.dP _ _ _ _,h=>by simp[clean] at h
 |.fv _ _ _ _,h=>by simp[clean] at h
 |.agg cs,h=>by simp only[clean] at h; simp only[aS]; exact C6 cs h
 |.dt cs,h=>by simp only[clean] at h; simp only[aS]; exact C6 cs h
 |.func _ _ _,h=>by simp[clean] at h
 |.any,_=>rfl|.undef,_=>rfl|.fN,_=>rfl|.fS,_=>rfl|.du,_=>rfl
 |.int _ _,_=>rfl|.bool _,_=>rfl|.str _,_=>rfl|.list _ _,_=>rfl|.dy _,_=>rfl|.ptr _ _,_=>rfl|.sl _ _ _ _,_=>rfl|.own _ _,_=>rfl
theorem C6:∀xs,im xs=true->dn xs=[]
 |[],_=>rfl
 |x::r,h=>by simp only[im,ae] at h; simp only[dn,O3 x h.1,C6 r h.2,List.append_nil]
end
theorem abZ {s s1:St} {kd:Kd} {v:AV} {f:Fq} (h:dF c call kd s=some (v,s1,f)):aS v=[]\/∃ sl bs,f=.wr sl bs\/f=.all:=by
 unfold dF at h;split at h
 ·rename_i r hi;subst h;obtain⟨sl,bs,e⟩:=Ez hi;exact .inr ⟨sl,bs,e⟩
 split at h
 ·rename_i r hi;subst h;obtain⟨_,_,_,_,_,_,_,_,_,_,_,_,_,_,_,hr,_,_⟩:=zN hi;exact .inl (PO _ hr.1)
 unfold gG at h;split at h
 ·rename_i r hi;subst h;exact .inr ⟨[],none,.inr (AO hi).1⟩
 rcases jM h with h|h
 case inr=>exact .inl (AE h).2
 unfold eL at h;split at h
 ·cases h
 split at h
 ·cases h
 split at h
 ·split at h
  ·cases h
  split at h
  case h_2=>cases h
  split at h
  case isFalse=>cases h
  rename_i hr;simp at h;obtain⟨rfl,_,_⟩:=h;simp only[Su,ae] at hr;exact .inl (O3 _ hr.1)
 ·split at h
  ·cases h
  split at h
  case isFalse=>cases h
  split at h
  ·split at h
   case isFalse=>cases h
   split at h
   case h_2=>cases h
   split at h
   case isFalse=>cases h
   rename_i hr;simp only[af,aC] at h;simp only[ae] at hr;obtain⟨rfl,_,_⟩:=h;exact .inl (fy.1 hr.1.1)
  ·split at h
   case isFalse=>cases h
   split at h
   case h_2=>cases h
   split at h
   case isFalse=>cases h
   rename_i hr;simp at h;obtain⟨rfl,_,_⟩:=h;exact .inl (PO _ hr)
theorem SZ (f:Nat->Rt):∀(j:Nat) (cs:List AV),bT cs=false->fc f j cs=cs
 |_,[],_=>rfl
 |j,x::r,h=>by
   cases x with
   |own k xs=>simp[bT] at h
   |_=>simp only[bT] at h; simp only[fc,SZ f (j+1) r h]
theorem aet {x v:AV} {ps:List Rt} {b j:Nat} (h:zQ x v ps=.rc b j):∃k o l,x=.ptr b j/\v=.dP k (.c b j) o l:=by
 unfold zQ at h;split at h
 ·split at h
  ·rename_i hc;obtain⟨rfl,rfl⟩:=hc;cases h;exact⟨_,_,_,rfl,rfl⟩
  ·cases h
 ·cases h
theorem akf {s s1:St} {kd:Kd} {v:AV} {f:Fq} (hv:fk c call s kd=some (v,s1,f)) (hf:calm f=true) (hk:BT kd=true) (h:Ip V s.env kd.reads)
  (hb:∀ps,f=.rd ps->∀b,Rt.c b 0∈ps->∀cs,aJ s.H b=some cs->(∀p∈dn cs,¬V p)/\(bT cs=true->∀j,¬V (.c b j)))
  (HQ:∀b j,f=.rc b j->∀cs c,aJ s.H b=some cs->cs[j]?=some c->(∀p∈aS c,¬V p)/\(∀k xs,c=.own k xs->¬V (.c b j))):QQ V v:=by
 have pure:∀{kd:Kd},BT kd=true->Ip V s.env kd.reads->(match VZ c s.env kd with
   |some v=>some (v,s,Fq.no)
   |none=>none)=some (v,s1,f)->QQ V v:=by
  intro kd hk h h2;split at h2
  case h_2=>cases h2
  rename_i u hu;simp at h2;obtain⟨rfl,_,_⟩:=h2;exact akd hu hk h
 have ai4:∀{kd:Kd},dF c call kd s=some (v,s1,f)->QQ V v:=by
  intro kd h2;rcases abZ h2 with e|⟨sl,bs,e|e⟩
  ·exact .nil e
  ·subst e; simp[calm] at hf
  ·subst e; simp[calm] at hf
 cases kd
 case call=>simp only[fk] at hv; exact ai4 hv
 case jC=>simp only[fk] at hv; exact ai4 hv
 case new=>simp only[fk] at hv; simp at hv; obtain⟨rfl,_,_⟩:=hv; exact .nil rfl
 case box=>simp only[fk] at hv; split at hv<;>simp at hv; obtain⟨rfl,_,_⟩:=hv; exact .nil rfl
 case dK=>simp only[fk] at hv; (repeat' split at hv)<;>simp at hv<;>(obtain⟨rfl,_,_⟩:=hv; exact .nil rfl)
 case P6=>simp only[fk] at hv; (repeat' split at hv)<;>simp at hv<;>(obtain⟨rfl,_,_⟩:=hv; exact .nil rfl)
 case clr=>simp only[fk] at hv; (repeat' split at hv)<;>simp at hv<;>(obtain⟨rfl,_,_⟩:=hv; exact .nil rfl)
 case app=>simp only[fk] at hv; (repeat' split at hv)<;>simp at hv<;>(obtain⟨rfl,_,_⟩:=hv; exact .nil rfl)
 case st=>simp only[fk] at hv; (repeat' split at hv)<;>simp at hv<;>(obtain⟨rfl,_,_⟩:=hv; exact .nil rfl)
 case copy=>simp only[fk] at hv; (repeat' split at hv)<;>simp at hv<;>(obtain⟨rfl,_,_⟩:=hv; exact .nil rfl)
 case Na n x hi=>
  simp only[fk] at hv;split at hv
  ·(repeat' split at hv)<;>simp at hv<;>(obtain⟨rfl,_,_⟩:=hv; exact .nil rfl)
  ·exact pure hk h hv
 case ld ag x=>
  simp only[fk] at hv;split at hv
  case h_2=>cases hv
  rename_i u ps hp;split at hv
  case isFalse=>cases hv
  rename_i hl;simp at hv;obtain⟨rfl,rfl,hlab⟩:=hv;by_cases hy:∃b off k o l,bp c s.env x=.ptr b off/\u=.dP k (.c b off) o l
  ·obtain⟨b,off,k,o,l,e,rfl⟩:=hy;rw[e] at hp hlab;have hbc':=HQ b off (by rw[<-hlab]; simp[zQ]);simp only[CC] at hp;split at hp
   case h_2=>cases hp
   rename_i cs dI;split at hp
   case h_2=>cases hp
   rename_i u' hu;simp at hp;obtain⟨rfl,_⟩:=hp
   have hz:((fc (.c b) 0 cs).drop off)[0]?=some (.dP k (.c b off) o l):=by
    unfold PJ Fj at hu;cases ag with
    |some n=>simp only at hu; (repeat' split at hu)<;>simp_all
    |none=>
      simp only at hu;rw[<-yB]
      (repeat' split at hu)<;>simp_all
   rw[bf,Nat.add_zero] at hz
   have hg:∀(cs:List AV) (j i:Nat),(fc (.c b) j cs)[i]?=some (.dP k (.c b off) o l)->∃c0,cs[i]?=some c0/\((∃k xs,c0=.own k xs)\/c0=.dP k (.c b off) o l):=by
    intro cs
    induction cs with
    |nil=>intro j i h; simp[fc] at h
    |cons d r ih=>
      intro j i h;cases i with
      |zero=>
        refine⟨d,rfl,?_⟩
        cases d<;>first
         |exact .inl ⟨_,_,rfl⟩
         |(simp[fc] at h; done)
         |(simp[fc] at h; right; simp[h])
      |succ i=>
        obtain⟨c0,h1,h2⟩:=ih (j+1) i (by cases d<;>simpa[fc] using h);exact⟨c0,by simpa using h1,h2⟩
   obtain⟨c0,h1,h2⟩:=hg cs 0 off hz;obtain⟨q1,q2⟩:=hbc' cs c0 dI h1;intro p hp;simp[aS] at hp;subst hp;rcases h2 with h2|h2
   ·obtain⟨k0,xs0,e0⟩:=h2; exact q2 k0 xs0 e0
   ·subst h2; exact q1 _ (by simp[aS])
  have hlab:f=.rd ps:=by
   rw[<-hlab];rcases zP (bp c s.env x) u ps with e|⟨b,j,e⟩
   ·exact e
   ·obtain⟨k,o,l,e1,e2⟩:=aet e;exact absurd ⟨b,j,k,o,l,e1,e2⟩ hy
  subst hlab;by_cases hx:∃b off,bp c s.env x=.ptr b off
  ·obtain⟨b,off,e⟩:=hx;rw[e] at hp;simp only[CC] at hp;split at hp
   case h_2=>cases hp
   rename_i cs dI;split at hp
   case h_2=>cases hp
   rename_i u' hu;simp at hp;obtain⟨rfl,rfl⟩:=hp;by_cases hz:aS u'=[]
   ·exact .nil hz
   obtain⟨b1,b2⟩:=hb _ rfl b (by simp[hz]) cs dI;refine VN (fun d hd p hp=>?_) hu;have:=lr.2 ⟨d,di hd,hp⟩;cases ho:bT cs with
   |false=>rw[SZ _ _ _ ho] at this; exact b1 p this
   |true=>
     rcases FI this with h3|⟨i,h3⟩
     ·exact b1 p h3
     ·subst h3; exact b2 ho i
  ·refine .nil ?_;unfold ldOK at hl;split at hl
   ·rename_i e; exact absurd ⟨_,_,e⟩ hx
   ·exact fy.1 hl
 case FA=>simp only[fk] at hv; simp at hv; obtain⟨rfl,_,_⟩:=hv; exact .nil rfl
 case Bs K ok z x k=>
  obtain⟨b,es,r,_,_,hp,e3,hz,rfl,_⟩:=aek hv;exact .nil (PO _ (aej e3 hp.1 hz))
 case CH K x k y=>
  obtain⟨b,es,r,_,_,_,_,rfl,_⟩:=aec hv;exact .nil rfl
 all_goals
  simp only[fk] at hv;exact pure hk h hv
end
end Go.Bm

/- What single operations are worth: regions that draw their order are sound. -/
namespace Go.Bm
open Go.Am
section
variable {P:Program} {c:eI} {call:Nat->List AV->Heap->Option (AV × Heap)} {V:Rt->Prop}
theorem dS.own {s t:St} (h:dS s t) (p:Rt):az t p=az s p:=by
 cases p with
 |s i=>simp only[az,at_,h.1 i]
 |sc i j=>simp only[az,at_,h.1 i]
 |c b j=>simp only[az,at_,h.2]
theorem Seen.of_same {s s0 t:St} {ps:List Rt} (e:dS s s0) (h:Seen ps s t):Seen ps s0 t:=fun p hp=>⟨by rw[(h p hp).1,e.own],fun b l hb=>by rw[(h p hp).2 b l hb,e.2]⟩
theorem tU.of_same {s s0 t:St} {b j:Nat} (e:dS s s0) (h:tU b j s t):tU b j s0 t:=fun cs hc=>h cs (by rw[e.2]; exact hc)
theorem akg {s s1:St} {kd:Kd} {v:AV} {n:Nat} (h:fk c call s kd=some (v,s1,.al n)):∃z,s1=⟨s.env,s.H++[z]⟩:=by
 have nc:∀{kd:Kd},dF c call kd s≠some (v,s1,.al n):=by
  intro kd h;unfold dF at h;split at h
  ·rename_i r hi;subst h;obtain⟨sl,bs,e|e⟩:=Ez hi<;>cases e
  split at h
  ·rename_i r hi;subst h;obtain⟨b,e⟩:=IG hi;cases e
  unfold gG at h;split at h
  ·rename_i r hi;subst h;obtain⟨e,_⟩:=AO hi;cases e
  replace h:=(jM h).resolve_right fun h=>by obtain⟨e,_⟩:=AE h; cases e
  unfold eL at h
  (repeat' split at h)<;>simp[A7] at h
  all_goals (obtain⟨_,_,h⟩:=h; revert h; split<;>simp[A7])
 have ns:∀{s s':St} {k:Nat} {a v:AV} {f:Fq},UZ s k a v=some (s',f)->f≠.al n:=by
  intro s s' k a v f h e;have:=Vu h;rw[e] at this;simp[calm] at this
 cases kd<;>simp only[fk] at h
 case new=>simp at h; exact⟨_,h.2.1.symm⟩
 case FA=>simp at h; exact⟨_,h.2.1.symm⟩
 case box=>split at h<;>simp at h; exact⟨_,h.2.1.symm⟩
 case call=>exact absurd h nc
 case jC=>exact absurd h nc
 case st=>
  exfalso;split at h
  ·split at h
   case h_2=>cases h
   rename_i hh;simp only[af,aC] at h;obtain⟨_,_,h5⟩:=h;split at h5
   ·exact ns hh h5
   ·cases h5
  ·split at h
   case h_2=>cases h
   rename_i hh;simp only[af,aC] at h;exact ns hh h.2.2
 case ld=>
  exfalso;split at h
  case h_2=>cases h
  split at h
  case isFalse=>cases h
  simp only[af,aC] at h;obtain⟨_,_,h5⟩:=h;rcases zP _ _ _ with e|⟨b,j,e⟩<;>rw[e] at h5<;>cases h5
 case P6=>
  split at h
  case h_2=>cases h
  split at h
  case isFalse=>cases h
  split at h
  ·simp at h; exact⟨_,h.2.1.symm⟩
  ·simp at h
 case dK=>
  exfalso
  (repeat' split at h)<;>simp[A7] at h
  all_goals (obtain⟨_,_,h⟩:=h; revert h; split<;>simp[A7])
 case copy=>
  exfalso
  (repeat' split at h)<;>simp at h
  obtain⟨_,_,h5⟩:=h;rcases Ac _ _ with e|⟨_,_,_,_,e⟩<;>rw[e] at h5<;>cases h5
 all_goals
  exfalso
  (repeat' split at h)<;>simp at h
theorem Oo {i:Nat} {x:AV} {b:Bool} (h:fo i x=.bool b):x=.bool b:=by
 cases x<;>simp[fo] at h<;>simp[h]
theorem Wo {i:Nat} {x:AV} (h:fo i x=.undef):x=.undef:=by
 cases x<;>simp[fo] at h<;>rfl
theorem ah6:sR c call:=by
 intro s q v s1 f ⟨hk,s0,t1,e0,he,e1⟩ hc
 have op:fk c call s0 q.kd=some (v,t1,f)->(∀t:St,(∀i∈q.reads,fo i (get t.env i)=fo i (get s.env i))->HY c call t q=fk c call t q.kd)->∃X,Xz c call s q v s1 f X:=by
  intro h A5;obtain⟨T,k1,k2,k3⟩:=adJ h hc;have hr:∀i∈q.kd.reads,i∈q.reads:=fun i hi=>by simp[O.reads,hi]
  refine⟨T,⟨e1.symm.trans ⟨fun i=>by rw[k1]; exact (e0.1 i).symm,by rw[k1]; show s0.H++T=s.H++T; rw[e0.2]⟩,?_,fun t h1 h2 h3=>?_,fun V h1 h2 h2c=>?_⟩⟩
  ·rcases k2 with e|⟨z,e,e2⟩
   ·by_cases Q4:∃n,f=.al n
    ·obtain⟨n,rfl⟩:=Q4;obtain⟨z,hz⟩:=akg h;rw[k1,e] at hz;simp at hz
    ·exact .inl ⟨e,fun n hn=>Q4 ⟨n,hn⟩⟩
   ·exact .inr ⟨z,e,by rw[e0.2]; exact e2⟩
  ·refine⟨hk,t,_,dS.rfl',?_,dS.rfl'⟩;rw[A5 t h1];exact k3 t (fun i hi=>by rw[h1 i (hr i hi),e0.1]) ⟨fun ps yy=>(h2.1 ps yy).of_same e0,fun b j hf=>(h2.2 b j hf).of_same e0⟩ h3
  ·exact akf h hc hk (fun i hi=>by rw[<-e0.1]; exact h1 i (hr i hi)) (fun ps yy b hp cs hb=>h2 ps yy b hp cs (by rw[e0.2]; exact hb)) fun b j hf cs c0 hb Lq=>h2c b j hf cs c0 (by rw[e0.2]; exact hb) Lq
 have un:f=.no->v=.undef->t1=s0->(∀t:St,(∀i∈q.reads,fo i (get t.env i)=fo i (get s.env i))->HY c call t q=some (.undef,t,.no))->∃X,Xz c call s q v s1 f X:=by
  intro hf hv ht A5;subst hf hv ht;refine⟨[],⟨e1.symm.trans ⟨fun i=>(e0.1 i).symm,by show t1.H=s.H++[]; rw[e0.2]; simp⟩,.inl ⟨rfl,fun n h=>by cases h⟩,fun t h1 _ _=>⟨hk,t,t,dS.rfl',A5 t h1,⟨fun i=>rfl,by simp⟩⟩,fun V _ _ _ p hp=>by simp[aS] at hp⟩⟩
 unfold HY at he;cases hg:q.guard with
 |none=>
   rw[hg] at he;exact op he fun t _=>by unfold HY; rw[hg]
 |some gp=>
   obtain⟨g,want⟩:=gp;rw[hg] at he;simp only at he;have MZ:g∈q.reads:=by simp[O.reads,hg]
   split at he
   ·rename_i b hb;split at he
    ·rename_i WE;refine op he fun t h1=>?_;unfold HY;rw[hg];have iE:get t.env g=.bool b:=Oo (by rw[h1 g MZ,e0.1 g,hb]; rfl);simp only[iE,WE,if_true]
    ·rename_i WE;simp only[af,aC] at he;refine un he.2.2.symm he.1.symm he.2.1.symm fun t h1=>?_;unfold HY;rw[hg];have iE:get t.env g=.bool b:=Oo (by rw[h1 g MZ,e0.1 g,hb]; rfl);simp only[iE,WE,if_false]
   ·rename_i hb;simp only[af,aC] at he;refine un he.2.2.symm he.1.symm he.2.1.symm fun t h1=>?_;unfold HY;rw[hg];have iE:get t.env g=.undef:=Wo (by rw[h1 g MZ,e0.1 g,hb]; rfl);simp only[iE]
   ·cases he

/-! Operations that write a few places -/
mutual
theorem Em {g:AV->AV}:∀x,(∀k p o l,p∈aS x->g (.dP k p o l)=.dP k p o l/\g (.fv k p o l)=.fv k p o l)->cT g x=x
 |.dP k p o l,h=>by simp only[cT]; exact (h k p o l (by simp[aS])).1
 |.fv k p o l,h=>by simp only[cT]; exact (h k p o l (by simp[aS])).2
 |.agg cs,h=>by simp only[cT]; rw[pR cs (by simpa only[aS] using h)]
 |.dt cs,h=>by simp only[cT]; rw[pR cs (by simpa only[aS] using h)]
 |.func f a b,h=>by
   simp only[aS,aF] at h;simp only[cT]; rw[pR a fun k p o l hp=>h k p o l (.inl hp),pR b fun k p o l hp=>h k p o l (.inr hp)]
 |.any,_=>rfl|.undef,_=>rfl|.fN,_=>rfl|.fS,_=>rfl|.du,_=>rfl
 |.int _ _,_=>rfl|.bool _,_=>rfl|.str _,_=>rfl|.list _ _,_=>rfl|.dy _,_=>rfl|.ptr _ _,_=>rfl|.sl _ _ _ _,_=>rfl|.own _ _,_=>rfl
theorem pR {g:AV->AV}:∀xs,(∀k p o l,p∈dn xs->g (.dP k p o l)=.dP k p o l/\g (.fv k p o l)=.fv k p o l)->dc g xs=xs
 |[],_=>rfl
 |x::r,h=>by
   simp only[dn,aF] at h;simp only[dc]; rw[Em x fun k p o l hp=>h k p o l (.inl hp),pR r fun k p o l hp=>h k p o l (.inr hp)]
end
theorem FG {f:Nat->Rt}:∀{cs:List AV} {j l k:Nat} {xs xs':List AV},cs[l]?=some (.own k xs)->xs'.length=xs.length->fc f j (cs.set l (.own k xs'))=fc f j cs
 |[],j,l,k,xs,xs',h,_=>by simp at h
 |x::r,j,0,k,xs,xs',h,hl=>by
   simp at h;subst h;simp only[List.set_cons_zero,fc,hl]
 |x::r,j,l+1,k,xs,xs',h,hl=>by
   have ih:=FG (f:=f) (j:=j+1) (by simpa using h) hl;rw[List.set_cons_succ];cases x<;>simp only[fc,ih]
theorem VB {s:St} {p:Rt} {k:Nat} {xs xs':List AV} (h:az s p=some (k,xs)) (hl:xs'.length=xs.length) (i:Nat):fo i (get (setAt s p (.own k xs')).env i)=fo i (get s.env i):=by
 cases p with
 |s j=>
   simp only[setAt,bN];by_cases e:i=j
   ·subst e;rw[if_pos rfl];simp only[az,at_] at h;split at h
    ·rename_i k2 xs2 e2;simp at h;obtain⟨rfl,rfl⟩:=h;simp at e2;rw[e2];simp only[fo,hl]
    ·cases h
   ·rw[if_neg e]
 |sc j l=>
   simp only[az,at_] at h;simp only[setAt];split
   ·rename_i cs dI;rw[dI] at h;simp only[bN];by_cases e:i=j
    ·subst e;rw[if_pos rfl,dI];simp only at h;split at h
     ·rename_i k2 xs2 e2;simp at h;obtain⟨rfl,rfl⟩:=h;simp only[fo,FG e2 hl]
     ·cases h
    ·rw[if_neg e]
   ·rfl
 |c b j=>
   simp only[setAt];split<;>rfl
theorem AQ {i:Nat}:∀{l:List Nat},i+nK∈marks l ↔ i∈l
 |[]=>by simp[marks]
 |j::r=>by simp[marks,AQ (l:=r)]
theorem gz {s:St} {p:Rt} {v:AV} {i:Nat} (h:i∉rootOf p):get (setAt s p v).env i=get s.env i:=by
 cases p with
 |s j=>simp only[rootOf,cU] at h; simp only[setAt,bN,if_neg h]
 |sc j l=>
   simp only[rootOf,cU] at h;simp only[setAt];split
   ·simp only[bN,if_neg h]
   ·rfl
 |c b j=>simp only[setAt]; split<;>rfl
theorem vw {s:St} {p:Rt} {v:AV} {b:Nat} (h:b∉mW p):aJ (setAt s p v).H b=aJ s.H b:=by
 cases p with
 |s j=>rfl
 |sc j l=>simp only[setAt]; split<;>rfl
 |c d j=>
   simp only[mW,cU] at h;simp only[setAt];split
   ·rw[dz,if_neg (fun e=>h e.1)]
   ·rfl
theorem Jc {s t:St} (h:dS s t) (p:Rt) (v:AV):dS (setAt s p v) (setAt t p v):=by
 cases p with
 |s j=>exact⟨fun i=>by simp only[setAt,bN,h.1 i],h.2⟩
 |sc j l=>
   simp only[setAt];rw[h.1 j];split
   ·exact⟨fun i=>by simp only[bN,h.1 i],h.2⟩
   ·exact h
 |c b j=>
   simp only[setAt];rw[h.2];split
   ·exact⟨h.1,rfl⟩
   ·exact h
theorem vu {s:St} {p:Rt} {v u:AV} {d:Nat} (h:d∉rootOf p):dS (setAt ⟨put s.env d u,s.H⟩ p v) ⟨put (setAt s p v).env d u,(setAt s p v).H⟩:=by
 cases p with
 |s j=>
   simp only[rootOf,cU] at h;refine⟨fun i=>?_,rfl⟩;simp only[setAt,bN];by_cases e:i=j
   ·subst e;have:i≠d:=fun e=>h e.symm;simp[this]
   ·simp[e]
 |sc j l=>
   simp only[rootOf,cU] at h;have hj:j≠d:=fun e=>h e.symm;simp only[setAt,bN,if_neg hj];split
   ·refine⟨fun i=>?_,rfl⟩;simp only[bN];by_cases e:i=j
    ·subst e; simp[hj]
    ·simp[e]
   ·exact dS.rfl'
 |c b j=>
   simp only[setAt];split
   ·exact dS.rfl'
   ·exact dS.rfl'
theorem zC {s:St} {p:Rt} {y:Nat × List AV} (h:az s p=some y):∀i∈rootOf p,bV (get s.env i)=true:=by
 intro i hi;obtain⟨k,xs⟩:=y;have h:=cC.1 h;cases p with
 |s j=>
   simp only[rootOf,cU] at hi; subst hi;simp only[at_,af] at h;rw[h]; rfl
 |sc j l=>
   simp only[rootOf,cU] at hi; subst hi;simp only[at_] at h;split at h
   ·rename_i cs hc;rw[hc];simp only[bV]
    have:∀{cs:List AV} {l:Nat},cs[l]?=some (.own k xs)->bT cs=true:=by
     intro cs
     induction cs with
     |nil=>intro l h; simp at h
     |cons x r ih=>
       intro l h;cases l with
       |zero=>simp at h; subst h; rfl
       |succ l=>simp at h; cases x<;>simp only[bT]<;>exact ih h
    exact this h
   ·cases h
 |c b j=>simp[rootOf] at hi
theorem pN {s:St} {p:Rt} {d:Nat} {u:AV} (h:d∉rootOf p):az ⟨put s.env d u,s.H⟩ p=az s p:=by
 cases p with
 |s j=>
   simp only[rootOf,cU] at h;have hj:j≠d:=fun e=>h e.symm;simp only[az,at_,bN,if_neg hj]
 |sc j l=>
   simp only[rootOf,cU] at h;have hj:j≠d:=fun e=>h e.symm;simp only[az,at_,bN,if_neg hj]
 |c b j=>rfl
structure yk (c:eI) (call:Nat->List AV->Heap->Option (AV × Heap)) (s:St) (kd:Kd) (v:AV) (s1:St) (sl:List Nat) (bs:Option (List Nat)) (V:Rt->Prop):Prop where
 env:∀i,i∉sl->i+nK∉sl->get s1.env i=get s.env i
 hd:∀i,i∉sl->fo i (get s1.env i)=fo i (get s.env i)
 keep:∀i,bV (get s.env i)=false->aS (get s.env i)=[]->get s1.env i=get s.env i
 heap:∀l,bs=some l->∀b,b∉l->aJ s1.H b=aJ s.H b
 v1:∀i,i∉sl->(∀p∈aS (get s.env i),¬V p)/\¬ V (.s i)/\∀ j,¬V (.sc i j)
 v2:∀l,bs=some l->∀b,b∉l->b+nK∉l->∀cs,aJ s.H b=some cs->(∀p∈dn cs,¬V p)/\(bT cs=true->∀j,¬V (.c b j))
 go:∀d u,d∉kd.reads->d∉sl->d+nK∉sl->QQ V u->∃t0 t1 sl',dS t0 ⟨put s.env d u,s.H⟩/\fk c call t0 kd=some (v,t1,.wr sl' bs)/\(∀i∈sl',i∈sl)/\dS t1 ⟨put s1.env d u,s1.H⟩
structure Xq (c:eI) (call:Nat->List AV->Heap->Option (AV × Heap)) (s:St) (kd:Kd) (v:AV) (s1:St) (sl:List Nat) (bs:Option (List Nat)) (V:Rt->Prop):Prop where
 env:∀i,i∉sl->i+nK∉sl->get s1.env i=get s.env i
 hd:∀i,i∉sl->fo i (get s1.env i)=fo i (get s.env i)
 keep:∀i,bV (get s.env i)=false->aS (get s.env i)=[]->get s1.env i=get s.env i
 heap:∀l,bs=some l->∀b,pD b l=false->aJ s1.H b=aJ s.H b
 cell:∀l,bs=some l->∀b j,b∉l->yh b j∉l->tU b j s s1/\tU b j s1 s
 v1:∀i,i∉sl->(∀p∈aS (get s.env i),¬V p)/\¬ V (.s i)/\∀ j,¬V (.sc i j)
 v2:∀l,bs=some l->∀b,pD b l=false->b+nK∉l->∀cs,aJ s.H b=some cs->(∀p∈dn cs,¬V p)/\(bT cs=true->∀j,¬V (.c b j))
 v3:∀l,bs=some l->∀b j,b∉l->b+nK∉l->yh b j∉l->∀cs c,aJ s.H b=some cs->cs[j]?=some c->(∀p∈aS c,¬V p)/\(∀k xs,c=.own k xs->¬V (.c b j))
 go:∀d u,d∉kd.reads->d∉sl->d+nK∉sl->QQ V u->∃t0 t1 sl',dS t0 ⟨put s.env d u,s.H⟩/\fk c call t0 kd=some (v,t1,.wr sl' bs)/\(∀i∈sl',i∈sl)/\dS t1 ⟨put s1.env d u,s1.H⟩
theorem Ls:∀{cs:List AV} {j k:Nat} {xs:List AV},cs[j]?=some (.own k xs)->bT cs=true
 |[],j,k,xs,h=>by simp at h
 |c::r,0,k,xs,h=>by simp at h; subst h; rfl
 |c::r,j+1,k,xs,h=>by
   have:=Ls (cs:=r) (j:=j) (by simpa using h);cases c<;>simp[bT,this]
theorem yk.up {s s1:St} {kd:Kd} {v:AV} {sl:List Nat} {bs:Option (List Nat)}:(∃V,yk c call s kd v s1 sl bs V)->∃V,Xq c call s kd v s1 sl bs V:=by
 rintro⟨V,h⟩;refine⟨V,⟨h.env,h.hd,h.keep,fun l hl b hb=>h.heap l hl b (p8 hb).1,fun l hl b j hb _=>⟨.of_eq (h.heap l hl b hb),.of_eq (h.heap l hl b hb).symm⟩,h.v1,fun l hl b hb=>h.v2 l hl b (p8 hb).1,fun l hl b j h1 h2 _ cs c0 hb hc=>?_,h.go⟩⟩;obtain⟨a1,a2⟩:=h.v2 l hl b h1 h2 cs hb;exact⟨fun p hp=>a1 p (lr.2 ⟨c0,bn hc,hp⟩),fun k xs e=>a2 (Ls (e▸hc)) j⟩
theorem vY {f:Rt->Bool}:∀{l:List Rt},Ai f l=true ↔ ∃p∈l,f p=true
 |[]=>by simp[Ai]
 |p::r=>by simp[Ai,vY (l:=r)]
theorem Mj {f:Rt->Bool}:∀{H:Heap} {b:Nat} {cs:List AV},Mk f H=false->aJ H b=some cs->∀p∈dn cs,f p=false
 |[],b,cs,_,h=>by simp[aJ] at h
 |none::r,b,cs,ha,h=>by
   cases b with
   |zero=>simp[aJ] at h
   |succ b=>exact Mj (H:=r) (b:=b) (by simpa[Mk] using ha) (by simpa[aJ] using h)
 |some ds::r,b,cs,ha,h=>by
   simp only[Mk,fa] at ha;cases b with
   |zero=>
     simp[aJ] at h;subst h;intro p hp;cases hf:f p with
     |false=>rfl
     |true=>rw[vY.2 ⟨p,hp,hf⟩] at ha; simp at ha
   |succ b=>exact Mj (H:=r) (b:=b) ha.2 (by simpa[aJ] using h)
theorem vS {p:Rt}:∀{l:List Rt},zS p l=true ↔ p∈l
 |[]=>by simp[zS]
 |q::r=>by rw[zS,dT,decide_eq_true_eq,vS (l:=r),aG]; exact⟨fun h=>h.imp Eq.symm id,fun h=>h.imp Eq.symm id⟩
theorem pG {p:Rt}:∀{e:Env} {i:Nat},zS p (aS (Am.get e i))=true\/(isRoot p i=true/\Am.get e i≠.any)->i∈nN p e
 |[],i,h=>by simp[Am.get,aS,zS] at h
 |(j,v)::r,i,h=>by
   simp only[Am.get] at h;simp only[nN];by_cases e:i=j
   ·subst e;simp only[if_true] at h
    have:(zS p (aS v)||isRoot p i)=true:=by
     rcases h with h|h
     ·simp[h]
     ·simp[h.1]
    rw[if_pos this]; simp
   ·rw[if_neg e] at h;have:=pG h;split
    ·simp[this]
    ·exact this
theorem Ff {p:Rt}:∀{sn:List Nat} {e:Env} {i:Nat},i∈nN p (PX sn e)->mem i sn=false/\(zS p (aS (Am.get e i))=true\/isRoot p i=true)
 |sn,[],i,h=>by simp[PX,nN] at h
 |sn,(j,v)::r,i,h=>by
   have rec_:∀{sn':List Nat},i∈nN p (PX sn' r)->mem j sn'=true->mem i sn'=false/\(zS p (aS (Am.get ((j,v)::r) i))=true\/isRoot p i=true):=by
    intro sn' h hj;obtain⟨h1,h2⟩:=Ff h;have qd:i≠j:=fun e=>by rw[e,hj] at h1; cases h1
    exact⟨h1,by simp only[Am.get]; rw[if_neg qd]; exact h2⟩
   unfold PX at h;by_cases hj:mem j sn=true
   ·rw[if_pos hj] at h;exact rec_ h hj
   ·rw[if_neg hj] at h;simp only[nN] at h
    have tail:i∈nN p (PX (j::sn) r)->mem i sn=false/\(zS p (aS (Am.get ((j,v)::r) i))=true\/isRoot p i=true):=fun h=>by
     obtain⟨h1,h2⟩:=rec_ h (by simp[mem]);unfold mem at h1;split at h1
     ·cases h1
     ·exact⟨h1,h2⟩
    split at h
    ·rename_i hc;rcases aG.1 h with e|h
     ·subst e;refine⟨by simpa using hj,?_⟩;simp only[Am.get,if_true];simpa using hc
     ·exact tail h
    ·exact tail h
theorem nO {p:Rt}:∀{H:Heap} {k b:Nat} {cs:List AV},aJ H b=some cs->p∈dn cs->k+b∈ui p k H
 |[],k,b,cs,h,_=>by simp[aJ] at h
 |none::r,k,b,cs,h,hp=>by
   cases b with
   |zero=>simp[aJ] at h
   |succ b=>
     have:=nO (H:=r) (k:=k+1) (b:=b) (by simpa[aJ] using h) hp;simp only[ui]; rwa [show k+(b+1)=k+1+b by omega]
 |some ds::r,k,b,cs,h,hp=>by
   cases b with
   |zero=>
     simp[aJ] at h;subst h;simp[ui,vS.2 hp]
   |succ b=>
     have:=nO (H:=r) (k:=k+1) (b:=b) (by simpa[aJ] using h) hp;simp only[ui];rw[show k+(b+1)=k+1+b by omega];split
     ·simp[this]
     ·exact this
theorem vB:∀{e:Env} {i:Nat},ga (aS (Am.get e i))=true->i∈gW e
 |[],i,h=>by simp[Am.get,aS,ga] at h
 |(j,v)::r,i,h=>by
   simp only[Am.get] at h;simp only[gW];by_cases e:i=j
   ·subst e;simp only[if_true] at h;rw[if_pos h]; simp
   ·rw[if_neg e] at h;have:=vB h;split
    ·simp[this]
    ·exact this
theorem Nu:∀{sn:List Nat} {e:Env} {i:Nat},i∈gW (PX sn e)->mem i sn=false/\ga (aS (Am.get e i))=true
 |sn,[],i,h=>by simp[PX,gW] at h
 |sn,(j,v)::r,i,h=>by
   have rec_:∀{sn':List Nat},i∈gW (PX sn' r)->mem j sn'=true->mem i sn'=false/\ga (aS (Am.get ((j,v)::r) i))=true:=by
    intro sn' h hj;obtain⟨h1,h2⟩:=Nu h;have qd:i≠j:=fun e=>by rw[e,hj] at h1; cases h1
    exact⟨h1,by simp only[Am.get]; rw[if_neg qd]; exact h2⟩
   unfold PX at h;by_cases hj:mem j sn=true
   ·rw[if_pos hj] at h;exact rec_ h hj
   ·rw[if_neg hj] at h;simp only[gW] at h
    have tail:i∈gW (PX (j::sn) r)->mem i sn=false/\ga (aS (Am.get ((j,v)::r) i))=true:=fun h=>by
     obtain⟨h1,h2⟩:=rec_ h (by simp[mem]);unfold mem at h1;split at h1
     ·cases h1
     ·exact⟨h1,h2⟩
    split at h
    ·rename_i hc;rcases aG.1 h with e|h
     ·subst e;refine⟨by simpa using hj,?_⟩;simp only[Am.get,if_true];exact hc
     ·exact tail h
    ·exact tail h
theorem FO:∀{l:List Rt},ga l=true ↔ ∃p∈l,eJ p=false
 |[]=>by simp[ga]
 |p::r=>by cases p<;>simp[ga,eJ,FO (l:=r)]
theorem FN {l:List Rt} (h:ga l=false):∀p∈l,eJ p=true:=by
 intro p hp;cases hn:eJ p with
 |true=>rfl
 |false=>rw[FO.2 ⟨p,hp,hn⟩] at h; cases h
theorem qL (s:St) (i:Nat):get (V9 s).env i=get s.env i:=((sW s).1 i).symm
end
end Go.Bm

/- Every operation that writes a few places; regions that draw their order are sound. -/
namespace Go.Bm
open Go.Am
section
variable {P:Program} {c:eI} {call:Nat->List AV->Heap->Option (AV × Heap)} {V:Rt->Prop}
theorem fi {i:Nat} {l m:List Nat} (h:i∉l++m):i∉l/\i∉m:=by simpa using h
theorem uz {p:Rt} {i:Nat}:isRoot p i=true ↔ i∈rootOf p:=by
 cases p<;>simp[isRoot,rootOf,eq_comm]
theorem It {x:AV} (h:∀p∈aS x,eJ p=true):cT pE x=x:=Em x fun k p o l hp=>by
 have:=h p hp;cases p<;>simp[eJ] at this<;>simp[pE]
theorem Ee {l:List Nat}:∀{H H':Heap} {k:Nat} {r:List Nat},eS l k H H'=some r->∀b,k+b∉l->aJ H' b=aJ H b/\((k+b)+nK∉r->∀cs,aJ H b=some cs->bT cs=false/\dn cs=[])
 |[],[],k,r,_,b,_=>⟨rfl,fun _ cs h=>by simp[aJ] at h⟩
 |[],_::_,k,r,h,b,_=>by simp[eS] at h
 |_::_,[],k,r,h,b,_=>by simp[eS] at h
 |x::H,y::H',k,r,h,b,hb=>by
   unfold eS at h;split at h
   case h_2=>cases h
   rename_i r0 h0;cases b with
   |zero=>
     have hm:mem k l=false:=by
      cases hh:mem k l with
      |false=>rfl
      |true=>exact absurd (mem_iff.1 hh) (by simpa using hb)
     rw[hm] at h;simp only[bk,if_false] at h;split at h
     case isFalse=>cases h
     rename_i he;have e:=ah9 he;subst e;refine⟨rfl,fun hr cs dI=>?_⟩
     have hx:x=some cs:=by
      unfold aJ at dI;simp only[List.getElem?_cons_zero] at dI;cases x with
      |none=>simp at dI
      |some d=>simp at dI; rw[dI]
     subst hx;cases hc:pB (some cs) with
     |false=>
       rw[hc] at h;simp at h;subst h;exact absurd (by simp) hr
     |true=>
       simp only[pB,ae,bJ] at hc;exact⟨hc.1,fy.1 hc.2⟩
   |succ b=>
     have ih:=Ee h0 b (by rw[show k+1+b=k+(b+1) by omega]; exact hb);have e:∀z (G:Heap),aJ (z::G) (b+1)=aJ G b:=fun z G=>by simp[aJ]
     rw[e,e];refine⟨ih.1,fun hr=>ih.2 fun hm=>hr ?_⟩;rw[show k+1+b=k+(b+1) by omega] at hm;split at h
     ·cases h; exact hm
     ·split at h
      ·simp at h;subst h;split
       ·exact hm
       ·exact List.mem_cons_of_mem _ hm
      ·cases h
theorem afa {p:Rt} {k:Nat} {xs:List AV} {x:AV} (h:p∉aS x):cT (fb p k xs) x=x:=Em x fun k' q o l hq=>by
 have:q≠p:=fun e=>h (e▸hq);constructor<;>simp[fb,this]
theorem ahv {p:Rt} {k:Nat} {xs:List AV} {x:List AV} (h:p∉dn x):dc (fb p k xs) x=x:=pR x fun k' q o l hq=>by
 have:q≠p:=fun e=>h (e▸hq);constructor<;>simp[fb,this]
theorem ace {s:St} {p:Rt} {k:Nat} {xs:List AV} {kd:Kd} {v:AV} (hp:az s p=some (k,xs))
  (A5:∀t:St,(∀i∈kd.reads,get t.env i=get s.env i)->az t p=some (k,xs)->fk c call t kd=some (v,setAt (cB (fb p k xs) t) p (.list k xs),.wr (nN p t.env) (some (mW p++ui p 0 t.H)))) :
  ∃ V,yk c call s kd v (setAt (cB (fb p k xs) s) p (.list k xs)) (nN p s.env) (some (mW p++ui p 0 s.H)) V:=by
 have zU:=zC hp;have Dv:∀i∈rootOf p,i∈nN p s.env:=fun i hi=>pG (.inr ⟨uz.2 hi,fun e=>by have:=zU i hi; rw[e] at this; cases this⟩);have pP:∀{i:Nat},i∉nN p s.env->p∉aS (get s.env i)/\i∉rootOf p:=fun{i} hi=>⟨fun e=>hi (pG (.inl (vS.2 e))),fun e=>hi (Dv i e)⟩
 have LK:∀i,p∉aS (get s.env i)->i∉rootOf p->get (setAt (cB (fb p k xs) s) p (.list k xs)).env i=get s.env i:=fun i h1 h2=>by
  rw[gz h2];show get (lZ (fb p k xs) s.env) i=_;rw[dx,afa h1]
 have ak4:∀b,b∉mW p++ui p 0 s.H->aJ (setAt (cB (fb p k xs) s) p (.list k xs)).H b=aJ s.H b:=fun b hb=>by
  rw[vw fun hm=>hb (XC _ hm)];show aJ (gn (fb p k xs) s.H) b=_;rw[fF];cases dI:aJ s.H b with
  |none=>rfl
  |some cs=>
    simp only[cD,af];refine ahv fun hm=>hb ?_;have:=nO (k:=0) dI hm;exact Vk _ (by simpa using this)
 refine⟨fun q=>q=p,⟨fun i hi _=>?_,fun i hi=>?_,fun i h1 h2=>?_,fun l hl b hb=>?_,fun i hi=>⟨fun q hq e=>?_,fun e=>?_,fun j e=>?_⟩,fun l hl b hb wU cs dI=>⟨fun q hq e=>?_,fun _ j e=>?_⟩,fun d u hd qe _ hu=>?_⟩⟩
 ·obtain⟨h1,h2⟩:=pP hi;exact LK i h1 h2
 ·obtain⟨h1,h2⟩:=pP hi;rw[LK i h1 h2]
 ·exact LK i (by rw[h2]; simp) fun hi=>by rw[zU i hi] at h1; cases h1
 ·cases hl;exact ak4 b hb
 ·subst e;exact (pP hi).1 hq
 ·subst e;exact (pP hi).2 (by simp[rootOf])
 ·subst e;exact (pP hi).2 (by simp[rootOf])
 ·subst e;cases hl;have:=nO (k:=0) dI hq;exact hb (Vk _ (by simpa using this))
 ·subst e;cases hl;exact hb (XC _ (by simp[mW]))
 ·obtain⟨hd3,hd4⟩:=pP qe
  let t0:St:=V9 ⟨put s.env d u,s.H⟩
  have Ll:dS t0 ⟨put s.env d u,s.H⟩:=(sW _).symm;have hg:∀i,get t0.env i=if i=d then u else get s.env i:=fun i=>by rw[qL,bN]
  have own:az t0 p=az s p:=by rw[<-Ll.own p]; exact pN hd4
  have MU:p∉aS u:=fun hm=>hu p hm rfl;refine⟨t0,setAt (cB (fb p k xs) t0) p (.list k xs),nN p t0.env,Ll,A5 t0 (fun i hi=>by rw[hg,if_neg]; intro e; subst e; exact hd hi) (own.trans hp),fun i hi=>?_,?_⟩
  ·obtain⟨_,h2⟩:=Ff hi;have:get (put s.env d u) i=get t0.env i:=(qL ⟨put s.env d u,s.H⟩ i).symm;simp only[this,hg] at h2;rcases h2 with h2|h2
   ·split at h2
    ·exact absurd (vS.1 h2) MU
    ·exact pG (.inl h2)
   ·exact Dv i (uz.1 h2)
  ·have h5:dS (cB (fb p k xs) t0) ⟨put (cB (fb p k xs) s).env d u,(cB (fb p k xs) s).H⟩:=⟨fun i=>by
    show get (lZ (fb p k xs) t0.env) i=get (put (lZ (fb p k xs) s.env) d u) i;rw[dx,hg,bN,dx];split
    ·exact afa MU
    ·rfl,rfl⟩
   exact (Jc h5 p (.list k xs)).trans (vu hd4)
theorem afS {s s1:St} {kd:Kd} {v:AV} {sl:List Nat} {bs:Option (List Nat)} (iE:∀t,fk c call t kd=dF c call kd t) (hi:rV c s kd=none) (hl:po c call s kd=none) (hmv:vc c call s kd=none) (h:eL c call kd s=some (v,s1,.wr sl bs)):∃V,yk c call s kd v s1 sl bs V:=by
 unfold eL at h;split at h
 ·cases h
 rename_i f args ha;split at h
 ·cases h
 rename_i md q hf;split at h
 ·rename_i hm;split at h
  ·cases h
  split at h
  case h_2=>cases h
  split at h
  case isFalse=>cases h
  simp only[af,aC] at h;obtain⟨_,_,h⟩:=h;split at h<;>cases h
 rename_i hm;split at h
 ·cases h
 rename_i f1 qP M5;split at h
 case isFalse=>cases h
 rename_i hff;split at h
 ·rename_i jz;split at h
  case isFalse=>cases h
  rename_i hp;split at h
  case h_2=>cases h
  rename_i r H' hc;split at h
  case isFalse=>cases h
  rename_i hr;simp only[af,aC] at h;obtain⟨rfl,rfl,h⟩:=h
  have he:dn args=[]:=by
   cases hb:dn args with
   |nil=>rfl
   |cons x y=>simp[hb] at h
  rw[he] at h M5 hp hc;simp only[eE] at M5 hp hc;simp at h;obtain⟨rfl,rfl⟩:=h
  have off:∀l,lj (iy qP) (eS (iy qP) 0 s.H H')=some l->∀b,b∉l->aJ H' b=aJ s.H b/\(b+nK∉l->∀cs,aJ s.H b=some cs->bT cs=false/\dn cs=[]):=by
   intro l hl b hb;cases ho:eS (iy qP) 0 s.H H' with
   |none=>rw[ho] at hl; cases hl
   |some r=>
     rw[ho] at hl;have hl:some (iy qP++r)=some l:=hl;cases hl;have wU:=fi hb;have:=Ee ho b (by simpa using wU.1);refine⟨this.1,fun h2=>this.2 ?_⟩;have:=(fi h2).2;simpa using this
  refine⟨fun p=>eJ p=false,⟨fun i hi _=>?_,fun i hi=>?_,fun i h1 h2=>?_,fun l hl b hb=>?_,fun i hi=>⟨fun p hp=>?_,by simp[eJ],fun j=>by simp[eJ]⟩,fun l hl b hb wU cs dI=>?_,fun d u hd qe _ hu=>?_⟩⟩
  ·simp only[he,eE,dx];refine It (FN ?_);cases hh:ga (aS (get s.env i)) with
   |false=>rfl
   |true=>exact absurd (vB hh) hi
  ·simp only[he,eE,dx];rw[It (FN ?_)];cases hh:ga (aS (get s.env i)) with
   |false=>rfl
   |true=>exact absurd (vB hh) hi
  ·simp only[he,eE,dx];exact It fun p hp=>by rw[h2] at hp; simp at hp
  ·exact (off l hl b hb).1
  ·have:ga (aS (get s.env i))=false:=by
    cases hh:ga (aS (get s.env i)) with
    |false=>rfl
    |true=>exact absurd (vB hh) hi
   rw[FN this p hp]; simp
  ·obtain⟨o1,o2⟩:=(off l hl b hb).2 wU cs dI;exact⟨fun p hp=>(by rw[o2] at hp; cases hp),fun ho=>(by rw[o1] at ho; cases ho)⟩
  ·let t0:St:=V9 ⟨put s.env d u,s.H⟩
   have hg:∀i,get t0.env i=if i=d then u else get s.env i:=fun i=>by rw[qL,bN]
   have hH:t0.H=s.H:=rfl
   have hrd:∀i∈kd.reads,get t0.env i=get s.env i:=fun i hi=>by
    rw[hg,if_neg]; intro e; subst e; exact hd hi
   refine⟨t0,⟨lZ pE t0.env,H'⟩,gW t0.env,(sW _).symm,?_,fun i hi=>?_,?_,rfl⟩
   ·rw[iE];unfold dF;rw[A0 hi,FE hl];simp only[gG,Fz hmv];apply tE;unfold eL;rw[iY (e1:=t0.env) (e2:=s.env) fun i hi=>by rw[hrd i hi],ha];simp only[hf,hm,he,eE,bk,if_false];rw[iY (e1:=t0.env) (e2:=s.env) fun i hi=>by rw[hrd i hi],M5];simp only[hff,if_true,jz,hH,hp,hc,hr];simp
    first
     |done
     |rfl
     |(congr 1)
   ·obtain⟨_,h2⟩:=Nu hi;have:get (put s.env d u) i=get t0.env i:=(qL ⟨put s.env d u,s.H⟩ i).symm;simp only[this,hg] at h2;split at h2
    ·rename_i e;subst e;obtain⟨p,hp,hn⟩:=FO.1 h2;exact absurd hn (hu p hp)
    ·exact vB h2
   ·intro i;simp only[he,eE,dx,hg,bN];split
    ·refine It fun p hp=>?_;have:=hu p hp;simpa using this
    ·rfl
 ·rename_i jz;split at h
  case isFalse=>cases h
  rename_i OB;split at h
  case h_2=>cases h
  rename_i r H' hc;split at h
  case isFalse=>cases h
  rename_i oi;simp only[af,aC] at h;obtain⟨rfl,rfl,h⟩:=h;split at h
  ·cases h
  unfold o7 at h;split at h
  case h_2=>cases h
  rename_i p hbr;split at h
  case h_2=>cases h
  rename_i y hp;obtain⟨k,xs⟩:=y;simp only[Fq.wr.injEq] at h;obtain⟨rfl,rfl⟩:=h
  have Ii:∀t:St,az t p=some (k,xs)->eE (dn args) t=setAt (cB (fb p k xs) t) p (.list k xs):=fun t ht=>by
   rw[hbr];simp only[eE,LD,ht]
  rw[Ii s hp];refine ace hp fun t ht hpt=>?_;rw[iE];unfold dF;rw[A0 hi,FE hl];simp only[gG,Fz hmv];apply tE;unfold eL;rw[iY (e1:=t.env) (e2:=s.env) fun i hi=>by rw[ht i hi],ha];simp only[hf,hm,bk,if_false];rw[Ii t hpt];rw[Ii s hp] at M5
  have hk:getArgs c (setAt (cB (fb p k xs) t) p (.list k xs)).env kd=some (f1,qP):=by
   rw[<-M5];refine iY fun i hi=>?_
   have e0:get (cB (fb p k xs) t).env i=get (cB (fb p k xs) s).env i:=by
    show get (lZ (fb p k xs) t.env) i=get (lZ (fb p k xs) s.env) i;rw[dx,dx,ht i hi]
   have e1:get (setAt (cB (fb p k xs) t) p (.list k xs)).env i=get (setAt (cB (fb p k xs) s) p (.list k xs)).env i:=by
    by_cases hr:i∈rootOf p
    ·cases p with
     |s i0=>
       simp[rootOf] at hr; subst hr;simp only[setAt];rw[bN,bN,if_pos rfl,if_pos rfl]
     |sc i0 j=>
       simp[rootOf] at hr; subst hr;simp only[setAt,e0];split
       ·rw[bN,bN,if_pos rfl,if_pos rfl]
       ·exact e0
     |c b j=>simp[rootOf] at hr
    ·rw[gz hr,gz hr]; exact e0
   rw[e1]
  rw[hk];simp only[hff,if_true,jz,bk,if_false,OB,hc,oi];simp[hbr,o7,hpt]
theorem abo {s s1:St} {k n:Nat} {zs:List AV} {ps:List (Nat × Nat × E)} {v:AV} {sl:List Nat} {bs:Option (List Nat)} (h:fk c call s (.dK k n zs ps)=some (v,s1,.wr sl bs)):∃V,yk c call s (.dK k n zs ps) v s1 sl bs V:=by
 simp only[fk] at h;split at h
 case h_2=>cases h
 rename_i cs hc;split at h
 case isFalse=>cases h
 rename_i hz;simp only[af,aC] at h;obtain⟨rfl,rfl,h⟩:=h;split at h
 ·cases h
 unfold o7 at h;split at h
 case h_2=>cases h
 rename_i p hbr;split at h
 case h_2=>cases h
 rename_i y hp;obtain⟨k',xs⟩:=y;simp only[Fq.wr.injEq] at h;obtain⟨rfl,rfl⟩:=h
 have Ii:∀t:St,az t p=some (k',xs)->eE (ig c s.env ps) t=setAt (cB (fb p k' xs) t) p (.list k' xs):=fun t ht=>by
  rw[hbr];simp only[eE,LD,ht]
 rw[Ii s hp] at hc ⊢;refine ace hp fun t ht hpt=>?_;have hpb:ig c t.env ps=ig c s.env ps:=tu fun i hi=>by rw[ht i hi]
 have hk:sE c (setAt (cB (fb p k' xs) t) p (.list k' xs)).env (rep zs n) ps=some cs:=by
  rw[<-hc];refine uE fun i hi=>?_
  have e0:get (cB (fb p k' xs) t).env i=get (cB (fb p k' xs) s).env i:=by
   show get (lZ (fb p k' xs) t.env) i=get (lZ (fb p k' xs) s.env) i;rw[dx,dx,ht i hi]
  have e1:get (setAt (cB (fb p k' xs) t) p (.list k' xs)).env i=get (setAt (cB (fb p k' xs) s) p (.list k' xs)).env i:=by
   by_cases hr:i∈rootOf p
   ·cases p with
    |s i0=>
      simp[rootOf] at hr; subst hr;simp only[setAt];rw[bN,bN,if_pos rfl,if_pos rfl]
    |sc i0 j=>
      simp[rootOf] at hr; subst hr;simp only[setAt,e0];split
      ·rw[bN,bN,if_pos rfl,if_pos rfl]
      ·exact e0
    |c b j=>simp[rootOf] at hr
   ·rw[gz hr,gz hr]; exact e0
  rw[e1]
 simp only[fk,hpb,Ii t hpt,hk,hz,if_true];simp[hbr,o7,hpt]
theorem CT {b off k:Nat}:∀{s:St} {v:AV},Mn (de b off k) s v=false->(∀i,∀p∈aS (get s.env i),de b off k p=false)/\(∀d cs,aJ s.H d=some cs->∀p∈dn cs,de b off k p=false)/\∀ p∈aS v,de b off k p=false:=by
 intro s v h;simp only[Mn,fa] at h;obtain⟨h1,h2,h3⟩:=h;refine⟨fun i p hp=>?_,fun d cs hb=>Mj h3 hb,fun p hp=>?_⟩
 ·cases hh:de b off k p with
  |false=>rfl
  |true=>rw[UK (i:=i) (vY.2 ⟨p,hp,hh⟩)] at h2; cases h2
 ·cases hh:de b off k p with
  |false=>rfl
  |true=>rw[vY.2 ⟨p,hp,hh⟩] at h1; cases h1
theorem ahg {p:Rt} {b:Nat} (h:pD b (aaJ p)=false):b∉mW p:=by
 cases p with
 |s i=>simp[mW]
 |sc i j=>simp[mW]
 |c d j=>
   have:=(p8 h).2 99999;simp only[aaJ,mW,cU] at this ⊢;intro e;subst e;exact this rfl
theorem tU.aae {b j:Nat} {s t:St} (h:∀cs,aJ s.H b=some cs->∃ds,aJ t.H b=some ds/\ds[j]?=cs[j]?):tU b j s t:=fun cs hc=>by
 obtain⟨ds,a,e⟩:=h cs hc;exact⟨ds,a,wJ _ e⟩
theorem VA {s:St} {p:Rt} {k:Nat} {xs xs':List AV} (hp:az s p=some (k,xs)) (hl:xs'.length=xs.length) (b j:Nat):tU b j s (setAt s p (.own k xs'))/\tU b j (setAt s p (.own k xs')) s:=by
 cases p with
 |s i=>exact⟨.of_eq rfl,.of_eq rfl⟩
 |sc i l=>
   have e:(setAt s (.sc i l) (.own k xs')).H=s.H:=by simp only[setAt]; split<;>rfl
   exact⟨.of_eq (by rw[e]),.of_eq (by rw[e])⟩
 |c d l=>
   have h1:=cC.1 hp;simp only[at_] at h1;split at h1
   case h_2=>cases h1
   rename_i cs dI;have e:(setAt s (.c d l) (.own k xs')).H=s.H.set d (some (cs.set l (.own k xs'))):=by simp only[setAt,dI]
   have hb:∀c,aJ (setAt s (.c d l) (.own k xs')).H c=if c=d then some (cs.set l (.own k xs')) else aJ s.H c:=fun c=>by
    rw[e,dz];by_cases q:c=d
    ·rw[if_pos ⟨q,by subst q; exact dL dI⟩,if_pos q]
    ·rw[if_neg (fun h=>q h.1),if_neg q]
   by_cases q:b=d
   ·subst q;have lc:=FG (f:=fun i=>Rt.c b i) (j:=0) h1 hl;refine⟨fun ds qe=>⟨_,by rw[hb,if_pos rfl],?_⟩,fun ds qe=>⟨cs,dI,?_⟩⟩
    ·rw[dI] at qe; cases qe;exact congrArg (·[j]?) lc
    ·rw[hb,if_pos rfl] at qe; cases qe;exact (congrArg (·[j]?) lc).symm
   ·exact⟨.of_eq (by rw[hb,if_neg q]),.of_eq (by rw[hb,if_neg q])⟩
theorem alH {s s1:St} {k:Nat} {x y:E} {v:AV} {sl:List Nat} {bs:Option (List Nat)} (h:fk c call s (.st k x y)=some (v,s1,.wr sl bs)):∃V,Xq c call s (.st k x y) v s1 sl bs V:=by
 have hcg:∀{d:Nat} {u:AV} {e:Env},(∀i,get e i=if i=d then u else get s.env i)->d∉(Kd.st k x y).reads->bp c e x=bp c s.env x/\bp c e y=bp c s.env y:=by
  intro d u e he hd;simp only[Kd.reads,aF,not_or] at hd;exact⟨cu fun i hi=>by rw[he,if_neg]; intro e; subst e; exact hd.1 hi,cu fun i hi=>by rw[he,if_neg]; intro e; subst e; exact hd.2 hi⟩
 have MD:∀{d:Nat} {u:AV},∀i,get (put s.env d u) i=if i=d then u else get s.env i:=fun i=>bN _ _ _ _;simp only[fk] at h;split at h
 ·rename_i k' p i off hx;split at h
  case h_2=>cases h
  rename_i s2 f hh;simp only[af,aC] at h;obtain⟨rfl,rfl,h⟩:=h
  have he:aS (bp c s.env y)=[]:=by
   cases hb:aS (bp c s.env y) with
   |nil=>rfl
   |cons a b=>rw[hb] at h; simp at h
  rw[he] at h hh;simp at h;subst h;rw[show eE [] s=s from rfl,hx] at hh;simp only[UZ] at hh;split at hh
  case h_2=>cases hh
  rename_i k2 xs hp;split at hh
  case isFalse=>cases hh
  rename_i hk;split at hh
  case h_2=>cases hh
  rename_i z hz;by_cases hc:(bp c s.env y).cells.length=k/\off+k<=k'/\E8 (bp c s.env y).cells=true
  case neg=>rw[if_neg hc] at hh; cases hh
  rw[if_pos hc] at hh;simp only[af,aC,Fq.wr.injEq] at hh;obtain⟨rfl,rfl,rfl⟩:=hh;have zU:=zC hp;refine⟨fun _=>False,⟨fun i _ hi=>gz fun hm=>hi (AQ.2 hm),fun i _=>VB (hk▸hp) (bG ..) i,(fun i h1 h2=>gz fun hi=>by rw[zU i hi] at h1; cases h1),fun l hl b hb=>(by cases hl; exact vw (ahg hb)),fun l hl b j hb hbj=>(by cases hl; exact VA (hk▸hp) (bG ..) b j),fun i hi=>⟨fun _ _=>id,id,fun _=>id⟩,fun l hl b hb wU cs dI=>⟨fun _ _=>id,fun _ _=>id⟩,fun l hl b j _ _ _ cs c0 _ _=>⟨fun _ _=>id,fun _ _ _=>id⟩,fun d u hd _ hds0 hu=>?_⟩⟩;have qe:d∉rootOf p:=fun hm=>hds0 (AQ.2 hm);obtain⟨e1,e2⟩:=hcg (MD (d:=d) (u:=u)) hd;refine⟨⟨put s.env d u,s.H⟩,_,marks (rootOf p),dS.rfl',?_,fun i hi=>hi,vu qe⟩;simp only[fk,e1,hx,e2,he];rw[show eE [] ⟨put s.env d u,s.H⟩=(⟨put s.env d u,s.H⟩:St) from rfl,e1,hx,e2];simp only[UZ,pN qe,hp,hk,if_true,hz];rw[if_pos hc];simp
 ·rename_i hnp;split at h
  case h_2=>cases h
  rename_i s2 f hh;simp only[af,aC] at h;obtain⟨rfl,rfl,rfl⟩:=h;unfold UZ at hh;split at hh
  ·rename_i b off hx;unfold BD at hh;split at hh
   case h_2=>cases hh
   rename_i cs hb;split at hh
   case isFalse=>cases hh
   rename_i hc;split at hh
   ·split at hh
    ·split at hh<;>simp at hh
    ·cases hh
   ·rename_i M4;simp only[af,aC,Fq.wr.injEq] at hh;obtain⟨rfl,rfl,rfl⟩:=hh
    have aaK:bT ((cs.drop off).take k)=true->Mn (de b off k) s (bp c s.env y)=false:=fun ho=>by
     rw[ho] at M4; simpa using M4
    apply yk.up;refine⟨fun p=>bT ((cs.drop off).take k)=true/\de b off k p=true,⟨fun i hi _=>rfl,fun i hi=>rfl,fun i h1 h2=>rfl,fun l hl d hd=>?_,fun i hi=>⟨fun p hp hV=>?_,fun hV=>by simp[de] at hV,fun j hV=>by simp[de] at hV⟩,fun l hl d hd HO ds qe=>⟨fun p hp hV=>?_,fun _ j hV=>?_⟩,fun d u hd qe _ hu=>?_⟩⟩
    ·cases hl;have:d≠b:=by simpa using hd
     show aJ (s.H.set b _) d=aJ s.H d;rw[dz,if_neg (fun e=>this e.1)]
    ·rw[(CT (aaK hV.1)).1 i p hp] at hV; cases hV.2
    ·rw[(CT (aaK hV.1)).2.1 d ds qe p hp] at hV; cases hV.2
    ·cases hl;have:d≠b:=by simpa using hd
     simp[de,this] at hV
    ·let t0:St:=V9 ⟨put s.env d u,s.H⟩
     have hg:∀i,get t0.env i=if i=d then u else get s.env i:=fun i=>by rw[qL,bN]
     have hH:t0.H=s.H:=rfl;obtain⟨e1,e2⟩:=hcg hg hd;refine⟨t0,⟨t0.env,s.H.set b (some (j9 cs off (bp c s.env y).cells))⟩,[],(sW _).symm,?_,fun i hi=>hi,(sW _).symm.1,rfl⟩
     have amG:(bT ((cs.drop off).take k)&&Mn (de b off k) t0 (bp c s.env y))=false:=by
      cases ho:bT ((cs.drop off).take k) with
      |false=>rfl
      |true=>
        obtain⟨n1,n2,n3⟩:=CT (aaK ho)
        have nR:∀{l:List Rt},(∀p∈l,de b off k p=false)->Ai (de b off k) l=false:=by
         intro l hl;cases hh:Ai (de b off k) l with
         |false=>rfl
         |true=>obtain⟨p,hp,hq⟩:=vY.1 hh; rw[hl p hp] at hq; cases hq
        have h0:=aaK ho;simp only[Mn,fa] at h0;simp only[Mn,Bool.true_and,fa];refine⟨h0.1,?_,by rw[hH]; exact h0.2.2⟩;cases hh:Mm (de b off k) t0.env with
        |false=>rfl
        |true=>
          obtain⟨i,_,h2⟩:=Ml hh;have:get (put s.env d u) i=get t0.env i:=(qL ⟨put s.env d u,s.H⟩ i).symm;simp only[this,hg] at h2;split at h2
          ·obtain⟨p,hp,hq⟩:=vY.1 h2;exact absurd ⟨ho,hq⟩ (hu p hp)
          ·rw[nR (n1 i)] at h2; cases h2
     simp only[fk,e1,hx,e2,UZ,BD,hH,hb];rw[if_pos hc];simp only[amG,bk,if_false]
  ·rename_i k2 p2 i2 off2 e1;exact absurd e1 (hnp k2 p2 i2 off2)
  ·cases hh
theorem Jf {q:Rt}:∀{l:List Rt},q∈l->∀i∈rootOf q,i∈Ca l
 |[],h,i,_=>by simp at h
 |r::l,h,i,hi=>by
   simp only[Ca,aF];rcases aG.1 h with e|e
   ·subst e; exact .inl hi
   ·exact .inr (Jf e i hi)
theorem afj {s t:St} {k:Nat} {x:AV} (h:∀p∈aS x,az t p=az s p):cont t k x=cont s k x:=by
 cases x<;>try rfl
 case dP k' p off len=>simp only[cont]; rw[h p (by simp[aS])]
 case own k' xs=>cases xs<;>rfl
theorem acm {p:Rt} {x:AV} (h:p∉aS x):cT (sw p) x=x:=Em x fun k q o l hq=>by
 have:q≠p:=fun e=>h (e▸hq);simp[sw,this]
theorem XK {p:Rt} {x:List AV} (h:p∉dn x):dc (sw p) x=x:=pR x fun k q o l hq=>by
 have:q≠p:=fun e=>h (e▸hq);simp[sw,this]
theorem L3 {p:Rt} {b:Nat} {m:List Nat} (h:pD b (cellOf p++m)=false):b∉mW p:=by
 intro hb;cases p with
 |s i=>simp[mW] at hb
 |sc i j=>simp[mW] at hb
 |c d j=>
   simp[mW] at hb;subst hb;exact (p8 h).2 j (by simp[cellOf])
theorem ajb {s s1:St} {k:Nat} {x y:E} {v:AV} {sl:List Nat} {bs:Option (List Nat)} (h:fk c call s (.app k x y)=some (v,s1,.wr sl bs)):∃V,Xq c call s (.app k x y) v s1 sl bs V:=by
 simp only[fk] at h;split at h
 case h_2=>cases h
 rename_i ys hy;split at h
 case isFalse=>cases h
 rename_i hl;split at h
 ·split at h<;>simp at h
 case h_3=>cases h
 rename_i k' p len hx;split at h
 case h_2=>cases h
 rename_i k2 xs hp;split at h
 case isFalse=>cases h
 rename_i hc;simp only[af,aC,Fq.wr.injEq] at h;obtain⟨rfl,rfl,rfl,rfl⟩:=h;have zU:=zC hp;have Dv:∀i∈rootOf p,i∈nN p s.env:=fun i hi=>pG (.inr ⟨uz.2 hi,fun e=>by have:=zU i hi; rw[e] at this; cases this⟩);have pP:∀{i:Nat},i∉nN p s.env->p∉aS (get s.env i)/\i∉rootOf p:=fun{i} hi=>⟨fun e=>hi (pG (.inl (vS.2 e))),fun e=>hi (Dv i e)⟩
 have LK:∀i,p∉aS (get s.env i)->i∉rootOf p->get (setAt (cB (sw p) s) p .any).env i=get s.env i:=fun i h1 h2=>by
  rw[gz h2];show get (lZ (sw p) s.env) i=_;rw[dx,acm h1]
 refine⟨fun q=>q=p,⟨fun i hi _=>?_,fun i hi=>?_,fun i h1 h2=>?_,fun l hl b hb=>?_,fun l hl b j hb hbj=>?_,fun i hi=>⟨fun q hq e=>?_,fun e=>?_,fun j e=>?_⟩,fun l hl b hb wU cs dI=>⟨fun q hq e=>?_,fun _ j e=>?_⟩,fun l hl b j hb wU hbj cs c0 dI Lq=>⟨fun q hq e=>?_,fun k0 xs0 e0 e=>?_⟩,fun d u hd qe hds2 hu=>?_⟩⟩
 ·obtain⟨h1,h2⟩:=pP (fi hi).1;exact LK i h1 h2
 ·obtain⟨h1,h2⟩:=pP (fi hi).1;rw[LK i h1 h2]
 ·exact LK i (by rw[h2]; simp) fun hi=>by rw[zU i hi] at h1; cases h1
 ·cases hl;have BV:b∉mW p:=L3 hb;have wU:=(fi (p8 hb).1).2;rw[vw BV];show aJ (gn (sw p) s.H) b=_;rw[fF];cases dI:aJ s.H b with
  |none=>rfl
  |some cs=>
    simp only[cD,af];refine XK fun hm=>wU ?_;have:=nO (k:=0) dI hm;simpa using this
 ·cases hl;obtain⟨BV,wU⟩:=fi hb;obtain⟨U8,_⟩:=fi hbj
  have hsw:∀cs,aJ s.H b=some cs->dc (sw p) cs=cs:=fun cs dI=>XK fun hm=>wU (by
   have:=nO (k:=0) dI hm;simpa using this)
  have hn:aJ s.H b=none->aJ (setAt (cB (sw p) s) p .any).H b=none:=fun hn=>by
   cases p with
   |s i=>show aJ (gn (sw _) s.H) b=none; rw[fF,hn]; rfl
   |sc i l=>
     simp only[setAt];split<;>(show aJ (gn (sw _) s.H) b=none; rw[fF,hn]; rfl)
   |c d l=>
     simp only[setAt];split
     ·rename_i cs dI;have hcs':aJ (gn (sw (.c d l)) s.H) d=some cs:=dI;show aJ ((gn (sw (.c d l)) s.H).set d _) b=none;rw[dz];by_cases e:b=d
      ·subst e; rw[fF,hn] at hcs'; cases hcs'
      ·rw[if_neg (fun h=>e h.1),fF,hn]; rfl
     ·show aJ (gn (sw _) s.H) b=none; rw[fF,hn]; rfl
  have hs:∀cs,aJ s.H b=some cs->∃ds,aJ (setAt (cB (sw p) s) p .any).H b=some ds/\ds[j]?=cs[j]?:=fun cs dI=>by
   have hm:aJ (gn (sw p) s.H) b=some cs:=by rw[fF,dI,cD,hsw cs dI]
   cases p with
   |s i=>exact⟨cs,hm,rfl⟩
   |sc i l=>
     simp only[setAt];split<;>exact⟨cs,hm,rfl⟩
   |c d l=>
     simp only[setAt];split
     ·rename_i es hes;have hes':aJ (gn (sw (.c d l)) s.H) d=some es:=hes;show ∃ds,aJ ((gn (sw (.c d l)) s.H).set d _) b=some ds/\_;rw[dz];by_cases e:b=d
      ·subst e;rw[hm] at hes';cases hes';refine⟨cs.set l .any,by rw[if_pos ⟨rfl,dL hm⟩],?_⟩;rw[List.getElem?_set_ne];intro e2;subst e2;exact U8 (by simp[cellOf])
      ·rw[if_neg (fun h=>e h.1)];exact⟨cs,hm,rfl⟩
     ·exact⟨cs,hm,rfl⟩
  refine⟨.aae hs,.aae fun ds qe=>?_⟩;cases dI:aJ s.H b with
  |none=>rw[hn dI] at qe; cases qe
  |some cs=>
    obtain⟨ds',h1,h2⟩:=hs cs dI;rw[h1] at qe;cases qe;exact⟨cs,rfl,h2.symm⟩
 ·subst e;exact (pP (fi hi).1).1 hq
 ·subst e;exact (pP (fi hi).1).2 (by simp[rootOf])
 ·subst e;exact (pP (fi hi).1).2 (by simp[rootOf])
 ·subst e;cases hl;obtain⟨BV,wU⟩:=fi (p8 hb).1;have:=nO (k:=0) dI hq;exact wU (by simpa using this)
 ·subst e;cases hl;exact L3 hb (by simp[mW])
 ·subst e;cases hl;obtain⟨BV,wU⟩:=fi hb;have:=nO (k:=0) dI (lr.2 ⟨c0,bn Lq,hq⟩);exact wU (by simpa using this)
 ·subst e;cases hl;exact (fi hbj).1 (by simp[cellOf])
 ·have hd1:=(fi qe).1;have HO:d∉Ca (aS (bp c s.env y)):=fun hm=>(fi hds2).2 (AQ.2 hm);obtain⟨hd3,hd4⟩:=pP hd1
  let t0:St:=V9 ⟨put s.env d u,s.H⟩
  have Ll:dS t0 ⟨put s.env d u,s.H⟩:=(sW _).symm;have hg:∀i,get t0.env i=if i=d then u else get s.env i:=fun i=>by rw[qL,bN]
  have hH:t0.H=s.H:=rfl;simp only[Kd.reads,aF,not_or] at hd;have e1:bp c t0.env x=bp c s.env x:=cu fun i hi=>by rw[hg,if_neg]; intro e; subst e; exact hd.1 hi
  have e2:bp c t0.env y=bp c s.env y:=cu fun i hi=>by rw[hg,if_neg]; intro e; subst e; exact hd.2 hi
  have own:∀q,d∉rootOf q->az t0 q=az s q:=fun q hq=>by rw[<-Ll.own q]; exact pN hq
  have e3:cont t0 k (bp c s.env y)=cont s k (bp c s.env y):=afj fun q hq=>own q fun hr=>HO (Jf hq d hr);have MU:p∉aS u:=fun hm=>hu p hm rfl;refine⟨t0,setAt (cB (sw p) t0) p .any,nN p t0.env++marks (Ca (aS (bp c s.env y))),Ll,?_,fun i hi=>?_,?_⟩
  ·simp only[fk,e1,e2,e3,hy,hl,if_true,hx,own p hd4,hp];rw[if_pos hc];rfl
  ·rcases aF.1 hi with hi|hi
   ·obtain⟨_,h2⟩:=Ff hi;have:get (put s.env d u) i=get t0.env i:=(qL ⟨put s.env d u,s.H⟩ i).symm;simp only[this,hg] at h2;refine aF.2 (.inl ?_);rcases h2 with h2|h2
    ·split at h2
     ·exact absurd (vS.1 h2) MU
     ·exact pG (.inl h2)
    ·exact Dv i (uz.1 h2)
   ·exact aF.2 (.inr hi)
  ·have h5:dS (cB (sw p) t0) ⟨put (cB (sw p) s).env d u,(cB (sw p) s).H⟩:=⟨fun i=>by
    show get (lZ (sw p) t0.env) i=get (put (lZ (sw p) s.env) d u) i;rw[dx,hg,bN,dx];split
    ·exact acm MU
    ·rfl,rfl⟩
   exact (Jc h5 p .any).trans (vu hd4)
theorem aja {s s1:St} {f:Nat} {x:E} {es:List E} {g:Nat->List AV->List AV->Option (List AV)} {v:AV} {sl:List Nat} {bs:Option (List Nat)} (hi:c.inp f=none) (Q3:c.eat f=some g) (h:WX s g (bp c s.env x) (dC c s.env es)=some (v,s1,.wr sl bs)):∃V,Xq c call s (.call f (x::es)) v s1 sl bs V:=by unfold WX at h;cases h
theorem ai9 {s s1:St} {kd:Kd} {v:AV} {sl:List Nat} {bs:Option (List Nat)} (hni:∀f x es,kd=.call f (x::es)->c.inp f≠none) (iE:∀t,fk c call t kd=dF c call kd t) (h:rV c s kd=some (some (v,s1,.wr sl bs))):∃V,yk c call s kd v s1 sl bs V:=by
 have h0:=h;unfold rV at h;split at h
 case h_2=>cases h
 rename_i f x es;split at h
 case h_1=>
  rename_i hin;exact absurd hin (hni _ _ _ rfl)
 rename_i g Q3;simp only[af] at h;split at h
 case h_4=>cases h
 case h_3=>
  exfalso
  (repeat' split at h)<;>simp at h
 ·rename_i k hx;split at h
  case isFalse=>cases h
  rename_i oi;split at h
  case h_2=>cases h
  rename_i ys res MZ;simp only[af,aC,Fq.wr.injEq] at h;obtain⟨rfl,rfl,rfl,rfl⟩:=h;refine⟨fun _=>False,⟨fun i hi _=>rfl,fun i hi=>rfl,fun i h1 h2=>rfl,fun l hl b hb=>rfl,fun i hi=>⟨fun _ _=>id,id,fun _=>id⟩,fun l hl b hb wU cs dI=>⟨fun _ _=>id,fun _ _=>id⟩,fun d u hd qe _ hu=>?_⟩⟩;have MD:∀i,get (put s.env d u) i=if i=d then u else get s.env i:=fun i=>bN _ _ _ _;simp only[Kd.reads,pw,aF,not_or] at hd;have e1:bp c (put s.env d u) x=bp c s.env x:=cu fun i hi=>by rw[MD,if_neg]; intro e; subst e; exact hd.1 hi
  have e2:dC c (put s.env d u) es=dC c s.env es:=gX fun i hi=>by rw[MD,if_neg]; intro e; subst e; exact hd.2 hi
  refine⟨⟨put s.env d u,s.H⟩,⟨put s.env d u,s.H⟩,[],dS.rfl',?_,fun i hi=>hi,dS.rfl'⟩;rw[iE];unfold dF rV;simp only[Q3,e1,hx,e2];rw[if_pos oi];simp only[MZ]
 rename_i k p len hx;split at h
 case h_2=>cases h
 rename_i k' xs hp;split at h
 case isFalse=>cases h
 rename_i hc;split at h
 case h_2=>cases h
 rename_i ys res MZ;simp only[af,aC,Fq.wr.injEq] at h;obtain⟨rfl,rfl,rfl,rfl⟩:=h;have zU:=zC hp;refine⟨fun _=>False,⟨fun i hi _=>gz hi,(fun i hi=>by rw[gz hi]),(fun i h1 h2=>gz fun hi=>by rw[zU i hi] at h1; cases h1),fun l hl b hb=>(by cases hl; exact vw hb),fun i hi=>⟨fun _ _=>id,id,fun _=>id⟩,fun l hl b hb wU cs dI=>⟨fun _ _=>id,fun _ _=>id⟩,fun d u hd qe _ hu=>?_⟩⟩;have MD:∀i,get (put s.env d u) i=if i=d then u else get s.env i:=fun i=>bN _ _ _ _;simp only[Kd.reads,pw,aF,not_or] at hd;have e1:bp c (put s.env d u) x=bp c s.env x:=cu fun i hi=>by rw[MD,if_neg]; intro e; subst e; exact hd.1 hi
 have e2:dC c (put s.env d u) es=dC c s.env es:=gX fun i hi=>by rw[MD,if_neg]; intro e; subst e; exact hd.2 hi
 refine⟨⟨put s.env d u,s.H⟩,_,rootOf p,dS.rfl',?_,fun i hi=>hi,vu qe⟩;rw[iE];unfold dF rV;simp only[Q3,e1,hx,pN qe,hp,e2];rw[if_pos hc];simp only[MZ]
theorem afR {s s1:St} {k:Nat} {x y:E} {v:AV} {sl:List Nat} {bs:Option (List Nat)} (h:fk c call s (.copy k x y)=some (v,s1,.wr sl bs)):∃V,yk c call s (.copy k x y) v s1 sl bs V:=by
 have iE:∀t,fk c call t (.copy k x y)=match bp c t.env x with
   |.dP k' p off n=>if n=0 then (match cont t k (bp c t.env y) with
     |some ys=>if k'=k/\bC (aA ys)=true then some (.int .i64 0,t,.all) else none
     |none=>none) else match az t p,cont t k (bp c t.env y) with
     |some (AX,xs),some ys=>if k'=k/\AX=k/\off+n<=xs.length/\bC (aA ys)=true then some (.int .i64 (min ys.length n:Nat),setAt t p (.own k (j9 xs off (ys.take (min ys.length n)))),Us p (bp c t.env y)) else none
     |_,_=>none
   |_=>none:=fun t=>rfl
 rw[iE] at h;split at h
 case h_2=>cases h
 rename_i k' p off n hx;split at h
 ·exfalso
  (repeat' split at h)<;>simp at h
 rename_i hn;split at h
 case h_2=>cases h
 rename_i AX xs ys hp hy;split at h
 case isFalse=>cases h
 rename_i hc;simp only[af,aC] at h;obtain⟨rfl,rfl,hl⟩:=h;rcases Ac p (bp c s.env y) with e|⟨ky,oy,ly,ey,e⟩
 ·rw[e] at hl; cases hl
 rw[e] at hl;simp only[Fq.wr.injEq] at hl;obtain⟨rfl,rfl⟩:=hl;have zU:=zC hp;refine⟨fun _=>False,⟨fun i hi _=>gz hi,(fun i hi=>by rw[gz hi]),(fun i h1 h2=>gz fun hi=>by rw[zU i hi] at h1; cases h1),fun l hl b hb=>(by cases hl; exact vw hb),fun i hi=>⟨fun _ _=>id,id,fun _=>id⟩,fun l hl b hb wU cs dI=>⟨fun _ _=>id,fun _ _=>id⟩,fun d u hd qe _ hu=>?_⟩⟩;have MD:∀i,get (put s.env d u) i=if i=d then u else get s.env i:=fun i=>bN _ _ _ _;simp only[Kd.reads,pw,aF,not_or] at hd;have e1:bp c (put s.env d u) x=bp c s.env x:=cu fun i hi=>by rw[MD,if_neg]; intro e; subst e; exact hd.1 hi
 have e2:bp c (put s.env d u) y=bp c s.env y:=cu fun i hi=>by rw[MD,if_neg]; intro e; subst e; exact hd.2 hi
 have e3:cont (⟨put s.env d u,s.H⟩:St) k (bp c s.env y)=cont s k (bp c s.env y):=by
  rw[ey];simp only[cont,pN qe]
 refine⟨⟨put s.env d u,s.H⟩,_,rootOf p,dS.rfl',?_,fun i hi=>hi,vu qe⟩;rw[iE];simp only[e1,hx,pN qe,hp,e2,e3,hy];rw[if_neg hn,if_pos hc,e]
theorem afQ {s s1:St} {kd:Kd} {v:AV} {sl:List Nat} {bs:Option (List Nat)} (iE:∀t,fk c call t kd=dF c call kd t) (h:rV c s kd=some (some (v,s1,.wr sl bs))):∃V,Xq c call s kd v s1 sl bs V:=by
 by_cases hex:∃f x es,kd=.call f (x::es)/\c.inp f=none
 case neg=>
  exact yk.up (ai9 (fun f x es e hn=>hex ⟨f,x,es,e,hn⟩) iE h)
 case pos=>
  obtain⟨f,x,es,rfl,hin⟩:=hex;simp only[rV,hin] at h;split at h
  ·cases h
  ·rename_i g Q3;simp only[af] at h;exact aja hin Q3 h
theorem Rb {s s1:St} {kd:Kd} {v:AV} {sl:List Nat} {bs:Option (List Nat)} (iE:∀t,fk c call t kd=dF c call kd t) (h:fk c call s kd=some (v,s1,.wr sl bs)):∃V,Xq c call s kd v s1 sl bs V:=by
 rw[iE] at h;unfold dF at h;cases hi:rV c s kd with
 |none=>
   rw[hi] at h;cases hl:po c call s kd with
   |none=>
     rw[hl] at h;simp only[gG] at h;cases hm:vc c call s kd with
     |none=>
       rw[hm] at h;replace h:=(jM h).resolve_right fun h=>by obtain⟨e,_⟩:=AE h; cases e
       exact yk.up (afS iE hi hl hm h)
     |some r=>
       rw[hm] at h;simp only at h;subst h;obtain⟨e,_⟩:=AO hm;cases e
   |some r=>
     rw[hl] at h;simp only at h;subst h;obtain⟨b,e⟩:=IG hl;cases e
 |some r=>
   rw[hi] at h;simp only at h;subst h;exact afQ iE hi
theorem wrOp {s s1:St} {kd:Kd} {v:AV} {sl:List Nat} {bs:Option (List Nat)} (h:fk c call s kd=some (v,s1,.wr sl bs)):∃V,Xq c call s kd v s1 sl bs V:=by
 cases kd
 case call=>exact Rb (fun _=>rfl) h
 case jC=>exact Rb (fun _=>rfl) h
 case st=>exact alH h
 case app=>exact ajb h
 case copy=>exact yk.up (afR h)
 case dK=>exact yk.up (abo h)
 case ld=>
  exfalso;simp only[fk] at h;split at h
  case h_2=>cases h
  split at h
  case isFalse=>cases h
  simp only[af,aC] at h;obtain⟨_,_,h5⟩:=h;rcases zP _ _ _ with e|⟨b,j,e⟩<;>rw[e] at h5<;>cases h5
 all_goals
  exfalso;simp only[fk] at h
  (repeat' split at h)<;>simp at h
theorem alI:EZ c call:=by
 intro s q v s1 sl bs ⟨hk,s0,t1,e0,he,e1⟩
 have op:fk c call s0 q.kd=some (v,t1,.wr sl bs)->(∀t:St,(∀i∈q.reads,get t.env i=get s.env i)->HY c call t q=fk c call t q.kd)->∃V,WrEv c call s q v s1 sl bs V:=by
  intro h A5;obtain⟨V,hV⟩:=wrOp h;have hr:∀i∈q.kd.reads,i∈q.reads:=fun i hi=>by simp[O.reads,hi]
  refine⟨V,⟨fun i hi hi2=>by rw[<-e1.1,hV.env i hi hi2,e0.1],fun i hi=>by rw[<-e1.1,hV.hd i hi,e0.1],fun i h1 h2=>by rw[<-e1.1,hV.keep i (by rw[<-e0.1]; exact h1) (by rw[<-e0.1]; exact h2),e0.1],fun l hl b hb=>by rw[<-e1.2,hV.heap l hl b hb,e0.2],fun l hl b j h1 h2=>(by
   have:=hV.cell l hl b j h1 h2;unfold tU at this ⊢;rw[e0.2,<-e1.2]; exact this),fun i hi=>by rw[e0.1]; exact hV.v1 i hi,fun l hl b hb wU cs dI=>hV.v2 l hl b hb wU cs (by rw[<-e0.2]; exact dI),fun l hl b j h1 h2 h3 cs c0 hb hc=>hV.v3 l hl b j h1 h2 h3 cs c0 (by rw[<-e0.2]; exact hb) hc,fun d u hd qe hds2 hu=>?_⟩⟩
  obtain⟨t0,t2,sl',h1,h2,h3,h4⟩:=hV.go d u (fun h=>hd (hr d h)) qe hds2 hu;have h6:dS (⟨put s0.env d u,s0.H⟩:St) ⟨put s.env d u,s.H⟩:=⟨fun i=>by simp only[bN,e0.1],e0.2.symm⟩;have hs:dS (⟨put s.env d u,s.H⟩:St) t0:=(h1.trans h6).symm;refine⟨t2,sl',⟨hk,t0,t2,hs,?_,dS.rfl'⟩,h3,h4.trans ⟨fun i=>by simp only[bN,e1.1],e1.2⟩⟩;rw[A5 t0 fun i hi=>?_]
  ·exact h2
  ·rw[<-hs.1 i];show get (put s.env d u) i=_;rw[bN,if_neg];intro e; subst e; exact hd hi
 unfold HY at he;cases hg:q.guard with
 |none=>
   rw[hg] at he;exact op he fun t _=>by unfold HY; rw[hg]
 |some gp=>
   obtain⟨g,want⟩:=gp;rw[hg] at he;simp only at he;have MZ:g∈q.reads:=by simp[O.reads,hg]
   split at he
   ·rename_i b hb;split at he
    ·rename_i WE;refine op he fun t h1=>?_;unfold HY;rw[hg];simp only[h1 g MZ,e0.1 g,hb,WE,if_true]
    ·cases he
   ·cases he
   ·cases he
theorem lwOp {s s1:St} {kd:Kd} {v:AV} {b:Nat} (h:fk c call s kd=some (v,s1,.lw b)):(∀t,fk c call t kd=dF c call kd t)/\rV c s kd=none/\po c call s kd=some (some (v,s1,.lw b)):=by
 have nc:∀{kd:Kd},dF c call kd s=some (v,s1,.lw b)->rV c s kd=none/\po c call s kd=some (some (v,s1,.lw b)):=by
  intro kd h;unfold dF at h;cases hi:rV c s kd with
  |some r=>
    rw[hi] at h;simp only at h;subst h;obtain⟨sl,bs,e|e⟩:=Ez hi<;>cases e
  |none=>
    rw[hi] at h;cases hl:po c call s kd with
    |some r=>
      rw[hl] at h;simp only at h;subst h;exact⟨rfl,rfl⟩
    |none=>
      rw[hl] at h;simp only[gG] at h;exfalso;split at h
      ·rename_i r hm;subst h;obtain⟨e,_⟩:=AO hm;cases e
      replace h:=(jM h).resolve_right fun h=>by obtain⟨e,_⟩:=AE h; cases e
      unfold eL at h
      (repeat' split at h)
      all_goals first
       |(cases h; done)
       |(simp[FX] at h; done)
       |(simp at h; obtain⟨_,_,h5⟩:=h; revert h5; split<;>simp[FX]; done)
       |(simp only[af,aC] at h; obtain⟨_,_,h5⟩:=h; split at h5<;>cases h5)
 have ns:∀{s s':St} {k:Nat} {a v:AV},UZ s k a v≠some (s',.lw b):=by
  intro s s' k a v h;unfold UZ BD at h
  repeat' split at h
  all_goals first
   |(cases h; done)
   |(simp at h; done)
 cases kd
 case call=>exact⟨fun _=>rfl,nc h⟩
 case jC=>exact⟨fun _=>rfl,nc h⟩
 case st k a v=>
  exfalso;simp only[fk] at h;split at h
  ·split at h
   case h_2=>cases h
   rename_i hh;simp only[af,aC] at h;obtain⟨_,_,h5⟩:=h;split at h5
   ·rw[h5] at hh; exact ns hh
   ·cases h5
  ·split at h
   case h_2=>cases h
   rename_i hh;simp only[af,aC] at h;obtain⟨_,_,h5⟩:=h;rw[h5] at hh;exact ns hh
 all_goals
  exfalso;simp only[fk] at h
  (repeat' split at h)
  all_goals first
   |(cases h; done)
   |(simp at h; done)
   |(simp[FX] at h; done)
   |(simp at h; obtain⟨_,_,h5⟩:=h; rcases zP _ _ _ with e|⟨b,j,e⟩<;>rw[e] at h5<;>cases h5; done)
   |(simp at h; obtain⟨_,_,h5⟩:=h; rcases Ac _ _ with e|⟨_,_,_,_,e⟩<;>rw[e] at h5<;>cases h5; done)
   |(simp at h; obtain⟨_,_,h5⟩:=h; revert h5; split<;>simp)
theorem ams:E3 c call:=by
 intro s q v s1 b ⟨hk,s0,t1,e0,he,e1⟩
 have op:fk c call s0 q.kd=some (v,t1,.lw b)->(∀t:St,(∀i∈q.reads,get t.env i=get s.env i)->HY c call t q=fk c call t q.kd)->∃cs cs',LwEv c call s q v s1 b cs cs':=by
  intro h A5;obtain⟨iE,hi,hl⟩:=lwOp h;obtain⟨f,x,es,b',md,q',cs,cs',hkd,h1,h2,h3,h4,h5,h6,h7,h8,h9⟩:=zN hl;simp only[Fq.lw.injEq] at h9;subst h9;have hin:∀i∈pw (x::es),i∈q.reads:=fun i hi=>by simp[O.reads,hkd,Kd.reads,hi]
  refine⟨cs,cs',⟨by rw[e0.2]; exact h4,?_,fun t ht hbt=>?_⟩⟩
  ·refine e1.symm.trans ?_;rw[h8];exact⟨fun i=>(e0.1 i).symm,by show s0.H.set b (some cs')=s.H.set b (some cs'); rw[e0.2]⟩
  ·refine⟨hk,t,⟨t.env,t.H.set b (some cs')⟩,dS.rfl',?_,dS.rfl'⟩;rw[A5 t ht,iE];unfold dF;rw[A0 hi t]
   have bF:po c call t q.kd=some (some (v,⟨t.env,t.H.set b (some cs')⟩,.lw b)):=by
    have e2:bp c t.env x=bp c s0.env x:=cu fun i hi=>by rw[ht i (hin i (by simp[pw,hi])),e0.1 i]
    have e3:dC c t.env es=dC c s0.env es:=gX fun i hi=>by rw[ht i (hin i (by simp[pw,hi])),e0.1 i]
    rw[hkd];unfold po;simp only;rw[if_pos h1];unfold locV;rw[e2,e3,h2];simp only[h3,hbt];rw[if_pos h5,h6];simp only;rw[if_pos h7]
   rw[bF]
 unfold HY at he;cases hg:q.guard with
 |none=>
   rw[hg] at he;exact op he fun t _=>by unfold HY; rw[hg]
 |some gp=>
   obtain⟨g,want⟩:=gp;rw[hg] at he;simp only at he;have MZ:g∈q.reads:=by simp[O.reads,hg]
   split at he
   ·rename_i b hb;split at he
    ·rename_i WE;refine op he fun t h1=>?_;unfold HY;rw[hg];simp only[h1 g MZ,e0.1 g,hb,WE,if_true]
    ·cases he
   ·cases he
   ·cases he
theorem alg (dm:fj P c) (FT:Pk P c call):Mv P c call:=abY dm FT (alh ah6 alI ams)
end
end Go.Bm

/- The end of a function that sees boxes of others. -/
namespace Go.Bm
open Go.Am
mutual
theorem Kw {o o':Rt->Option (Nat × List AV)} {nb Od:Nat} (hn:nb<=Od):∀x,jR x=true->cP o nb x->cP o' Od x
 |.ptr b off,_,h=>by simp only[cP] at h ⊢; omega
 |.agg cs,hp,h=>by simp only[jR] at hp; simp only[cP] at h ⊢; exact DZ hn cs hp h
 |.dt cs,hp,h=>by simp only[jR] at hp; simp only[cP] at h ⊢; exact DZ hn cs hp h
 |.func f a b,hp,h=>by simp only[jR,ae] at hp; simp only[cP] at h ⊢; exact⟨DZ hn a hp.1 h.1,DZ hn b hp.2 h.2.1,h.2.2⟩
 |.own _ _,hp,_=>by simp[jR] at hp
 |.dP _ _ _ _,hp,_=>by simp[jR] at hp
 |.fv _ _ _ _,hp,_=>by simp[jR] at hp
 |.sl _ b _ _,_,h=>by simp only[cP] at h ⊢; omega
 |.any,_,_=>trivial|.undef,_,_=>trivial|.fN,_,_=>trivial|.fS,_,_=>trivial|.du,_,_=>trivial
 |.int _ _,_,_=>trivial|.bool _,_,_=>trivial|.str _,_,_=>trivial|.list _ _,_,_=>trivial|.dy _,_,_=>trivial
theorem DZ {o o':Rt->Option (Nat × List AV)} {nb Od:Nat} (hn:nb<=Od):∀xs,eZ xs=true->mg o nb xs->mg o' Od xs
 |[],_,_=>trivial
 |x::r,hp,h=>by simp only[eZ,ae] at hp; exact⟨Kw hn x hp.1 h.1,DZ hn r hp.2 h.2⟩
end
theorem AK {x:AV} (h:jR x=true):bV x=false:=by
 cases x<;>first|rfl|(simp[jR] at h; done)|skip
 rename_i cs;simp only[jR] at h;simp only[bV]
 induction cs with
 |nil=>rfl
 |cons y r ih=>
   simp only[eZ,ae] at h;have h1:=h.1;cases y<;>first|exact ih h.2|(simp[jR] at h1; done)
theorem P9:lN qS:=by
 intro k r o l;cases r<;>exact⟨⟨(fun cs e=>by cases e),(fun k xs e=>by cases e)⟩,⟨(fun cs e=>by cases e),(fun k xs e=>by cases e)⟩⟩
section
variable {P:Program} {X:Nat->Prop} {φ lV φ':dj} {w w1 w':World} {N N1 N':Names} {s s' s1:St} {Ha:Heap} {B:Nat->Nat} {base:Nat} {v va:AV} {v':Value} {c:eI} {a:Act} {call:Nat->List AV->Heap->Option (AV × Heap)} {t:Nat->Value}
theorem ZX {s s':St} (h:s'.H=s.H) (b j:Nat):az s' (.c b j)=az s (.c b j):=by simp only[az,at_,h]
theorem wH (r:AV) (i:Nat):get [(0,r)] i=if i=0 then r else .any:=by simp only[Am.get]
theorem eW.leave (h:eW X φ w N s Ha t) {i0:Nat} {r:AV} (hr:get s.env i0=r) (hp:jR r=true):eW X φ w N ⟨[(0,r)],gn qS s.H⟩ Ha (fun i=>if i=0 then t i0 else undef):=by
 have iv:=AK hp
 have slot:∀i,(∀k xs,get [(0,r)] i≠.own k xs)/\(az ⟨[(0,r)],gn qS s.H⟩ (.s i)=none/\∀ j,az ⟨[(0,r)],gn qS s.H⟩ (.sc i j)=none):=by
  intro i
  have h0:bV (get (⟨[(0,r)],gn qS s.H⟩:St).env i)=false:=by
   show bV (get [(0,r)] i)=false;rw[wH]; split
   ·exact iv
   ·rfl
  refine⟨fun k xs e=>?_,dR h0⟩;have h1:bV (get [(0,r)] i)=false:=h0;rw[e] at h1; cases h1
 have box:∀b j,az ⟨[(0,r)],gn qS s.H⟩ (.c b j)=az s (.c b j):=fun b j=>by
  rw[<-iO P9 s (.c b j)];exact ZX rfl b j
 have own:∀{p},(az ⟨[(0,r)],gn qS s.H⟩ p).isSome->az ⟨[(0,r)],gn qS s.H⟩ p=az s p/\∃ b j,p=.c b j:=by
  intro p hp;cases p with
  |s i=>rw[(slot i).2.1] at hp; cases hp
  |sc i j=>rw[(slot i).2.2 j] at hp; cases hp
  |c b j=>exact⟨box b j,b,j,rfl⟩
 have hlen:(gn qS s.H).length=s.H.length:=fM _ _;have back:∀b,(aJ (gn qS s.H) b).isSome->(aJ s.H b).isSome:=fun b hb=>by rw[fF] at hb; simpa using hb
 have hl:∀k p a l,(cP (az s) s.H.length (.dP k p a l)->cP (az ⟨[(0,r)],gn qS s.H⟩) s.H.length (qS (.dP k p a l))/\Le (cS N (qS (.dP k p a l))) (cS N (.dP k p a l)))/\(cP (az s) s.H.length (.fv k p a l)->cP (az ⟨[(0,r)],gn qS s.H⟩) s.H.length (qS (.fv k p a l))/\Le (cS N (qS (.fv k p a l))) (cS N (.fv k p a l))):=by
  intro k p a l;cases p with
  |s i=>exact⟨fun _=>⟨trivial,Le.any _⟩,fun _=>⟨trivial,Le.any _⟩⟩
  |sc i j=>exact⟨fun _=>⟨trivial,Le.any _⟩,fun _=>⟨trivial,Le.any _⟩⟩
  |c b j=>
    refine⟨fun h=>⟨?_,Le.refl _⟩,fun h=>⟨?_,Le.refl _⟩⟩
    ·simp only[qS,cP] at h ⊢; rw[box]; exact h
    ·simp only[qS,cP] at h ⊢; rw[box]; exact h
 refine⟨fun i=>?_,fun i=>?_,h.heap,fun p k xs e=>?_,fun b cs e=>?_,fun p q n e1 e2 e3 e4=>?_,fun b p e1 e2 e3=>?_,fun b d e1 e2 e3=>h.bi b d (back b e1) (back d e2) e3⟩
 ·show bO _ _ (lT N i (get [(0,r)] i)) (if i=0 then t i0 else undef);rw[wH];by_cases e:i=0
  ·subst e;simp only[if_true];have:=h.env i0;rw[hr,AA N i0 iv] at this;rw[AA N 0 iv];exact this
  ·rw[if_neg e,if_neg e]; exact .any _ _
 ·show cP _ _ (get [(0,r)] i);rw[wH,hlen];split
  ·have:=h.Iz i0;rw[hr] at this;exact Kw (aO _) r hp this
  ·trivial
 ·have:=own (p:=p) (by rw[e]; rfl);rw[this.1] at e;exact h.own p k xs e
 ·have hb:aJ (gn qS s.H) b=some cs:=e;rw[fF] at hb;cases hc:aJ s.H b with
  |none=>rw[hc] at hb; cases hb
  |some ds=>
    rw[hc] at hb;simp at hb;subst hb;obtain⟨as,g1,g2,g3⟩:=h.box b ds hc;refine⟨as,g1,by rw[cN]; exact g2,fun j d hd=>?_⟩;rw[eV] at hd;cases hj:ds[j]? with
    |none=>rw[hj] at hd; cases hd
    |some d0=>
      rw[hj] at hd;simp at hd;subst hd;obtain⟨g4,a',g5,g6⟩:=g3 j d0 hj;obtain⟨k1,k2⟩:=nT (N:=N) (N':=N) (o:=az s) (o':=az ⟨[(0,r)],gn qS s.H⟩) (nb:=s.H.length) (g:=qS) rfl P9 hl (r:=.c b j) (x:=d0) (fun _ _ _=>rfl) g4;refine⟨?_,a',g5,k2.trans g6⟩;show cP _ (gn qS s.H).length _;rw[hlen]; exact k1
 ·rw[(own e1).1] at e1;rw[(own e2).1] at e2;exact h.inj p q n e1 e2 e3 e4
 ·have e2':(az s p).isSome:=by rw[<-(own e2).1]; exact e2
  exact h.bx b p (back b e1) e2' e3
theorem Rf {env:Env} {base:Nat}:∀(n:Nat) (H:Heap),base<=H.length->base<=(trim base env n H).length:=by
 intro n
 induction n with
 |zero=>intro H h; exact h
 |succ n ih=>
   intro H h;simp only[trim];split
   ·exact ih _ (by simp; omega)
   ·exact h
theorem eW.WV {H:Heap} {r1 r2:AV} (h:eW X φ w N ⟨[(0,r1)],H⟩ Ha t) (h1:jR r1=true) (h2:jR r2=true) (hk:cP (fun _=>none) H.length r2) (hr:bO (Rd X φ w) φ (cS N r2) v'):eW X φ w N ⟨[(0,r2)],H⟩ Ha (fun i=>if i=0 then v' else undef):=by
 have slot:∀{r:AV},jR r=true->∀i,bV (get (⟨[(0,r)],H⟩:St).env i)=false:=fun{r} hp i=>by
  show bV (get [(0,r)] i)=false;rw[wH]; split
  ·exact AK hp
  ·rfl
 have own:∀p,az ⟨[(0,r2)],H⟩ p=az ⟨[(0,r1)],H⟩ p:=by
  intro p;cases p with
  |s i=>rw[(dR (slot h2 i)).1,(dR (slot h1 i)).1]
  |sc i j=>rw[(dR (slot h2 i)).2 j,(dR (slot h1 i)).2 j]
  |c b j=>exact ZX rfl b j
 refine⟨fun i=>?_,fun i=>?_,h.heap,fun p k xs e=>?_,fun b cs e=>?_,fun p q n e1 e2=>?_,fun b p e1 e2=>?_,h.bi⟩
 ·show bO _ _ (lT N i (get [(0,r2)] i)) (if i=0 then v' else undef);rw[wH];by_cases e:i=0
  ·rw[if_pos e,if_pos e,AA N i (AK h2)]; exact hr
  ·rw[if_neg e,if_neg e]; exact .any _ _
 ·show cP _ _ (get [(0,r2)] i);rw[wH];split
  ·exact Kw (aO _) r2 h2 hk
  ·trivial
 ·rw[own] at e; exact h.own p k xs e
 ·obtain⟨as,g1,g2,g3⟩:=h.box b cs e;refine⟨as,g1,g2,fun j c hc=>⟨jS (fun p _=>own p) (aO _) c (g3 j c hc).1,(g3 j c hc).2⟩⟩
 ·rw[own] at e1 e2; exact h.inj p q n e1 e2
 ·rw[own] at e2; exact h.bx b p e1 e2
theorem eW.alE {env:Env} {H:Heap} (h:eW X φ w N ⟨env,H⟩ Ha t) {n k:Nat} {xs:List AV} (ho:qQ Ha (some n) k xs) (hz:∀g sz,φ[n]?=some (some (g,sz))->0<sz) (hnq:∀q,(az ⟨env,H⟩ q).isSome->N.ν q≠some n) (TR:∀b,(aJ H b).isSome->N.β b≠n) :
  ∃ Ha',eW X φ w ⟨fun c=>if c=H.length then n else N.β c,N.ν⟩ ⟨env,H++[some (aA xs)]⟩ Ha' t/\(∀m,m≠n->aJ Ha' m=aJ Ha m)/\∀ q,az ⟨env,H++[some (aA xs)]⟩ q=az ⟨env,H⟩ q:=by
 obtain⟨cs,c1,c2,c3,c4⟩:=ho;have hfl:=gN c3;have bF:=dL c1;have Ie:∀m,m≠n->aJ (Ha.set n (some (cs.take (xs.length*k)))) m=aJ Ha m:=fun m hm=>by rw[dz,if_neg (fun e=>hm e.1)]
 have eX:∀b,b<H.length->(if b=H.length then n else N.β b)=N.β b:=fun b hb=>if_neg (by omega)
 have eU:∀q,az ⟨env,H++[some (aA xs)]⟩ q=az ⟨env,H⟩ q:=by
  intro q;cases q with
  |s i=>rfl
  |sc i j=>rfl
  |c b j=>
    by_cases hb:b=H.length
    ·subst hb
     have e0:az ⟨env,H⟩ (.c H.length j)=none:=by
      have:aJ H H.length=none:=by
       cases e:aJ H H.length with
       |none=>rfl
       |some cs=>have:=dL e; omega
      simp[az,at_,this]
     rw[e0];unfold az at_;simp only[fE,if_true];cases e:(aA xs)[j]? with
     |none=>rfl
     |some d=>
       have hd:=(mh (c4 j d e).1).1;cases d<;>first|rfl|(simp[pl] at hd; done)
    ·exact iN (by simp only[at_,fE,if_neg hb])
 have mono:∀p,(az ⟨env,H⟩ p).isSome->az ⟨env,H++[some (aA xs)]⟩ p=az ⟨env,H⟩ p:=fun p _=>eU p;have hlen:H.length<=(H++[some (aA xs)]).length:=by simp
 have bold:∀{b},(aJ (H++[some (aA xs)]) b).isSome->(b<H.length/\(aJ H b).isSome)\/b=H.length:=by
  intro b hb;rw[fE] at hb;by_cases e:b=H.length
  ·exact .inr e
  ·rw[if_neg e] at hb;obtain⟨cs,e2⟩:=aU.1 hb;exact .inl ⟨dL e2,hb⟩
 have hh:cj X φ w (Ha.set n (some (cs.take (xs.length*k)))):=by
  refine⟨by rw[bG]; exact h.heap.len,h.heap.Gg,fun b ds hb=>?_,fun b hb=>?_,h.heap.inj⟩
  ·rw[aR] at hb;split at hb
   ·rename_i e;subst e;simp at hb;obtain⟨_,rfl⟩:=hb;obtain⟨g,sz,arr,e,p1,p2,p3,p4,p5,p6⟩:=h.heap.live n cs (tR c1);refine⟨g,sz,arr,e,p1,p2,p3,⟨by rw[bw]; omega,fun z=>by have:=hz g sz p1; omega⟩,p5,fun i d hd=>?_⟩;rw[bP] at hd;split at hd
    ·exact p6 i d hd
    ·cases hd
   ·exact h.heap.live b ds hb
  ·rw[aR] at hb;split at hb
   ·simp at hb
   ·exact h.heap.dead b hb
 refine⟨_,⟨fun i=>?_,fun i=>jS mono hlen _ (h.Iz i),hh,fun p k' ys e=>?_,fun b ds e=>?_,fun p q m e1 e2 e3 e4=>?_,fun b p e1 e2 e3=>?_,fun b d e1 e2 e3=>?_⟩,Ie,eU⟩
 ·rw[B7 (N:=N) (N':=⟨fun c=>if c=H.length then n else N.β c,N.ν⟩) eX (fun _ _=>rfl) rfl (fun _=>rfl) (h.Iz i)];exact h.env i
 ·rw[eU] at e;refine (h.own p k' ys e).same fun m hm=>Ie m fun e2=>?_;exact hnq p (by rw[e]; rfl) (by rw[<-e2]; exact hm)
 ·by_cases hb:b=H.length
  ·subst hb;simp only[fE,if_true,af] at e;subst e;refine⟨cs.take (xs.length*k),by simp only[if_true]; rw[dz,if_pos ⟨rfl,bF⟩],by rw[bw,hfl]; omega,fun j d hd=>?_⟩;obtain⟨q1,a,q2,q3,q4⟩:=c4 j d hd;have oi:=(mh q1).1;have hj:=ak hd;rw[hfl] at hj;refine⟨vK d oi,a,by rw[bP,if_pos hj]; exact q2,?_⟩
   have e1:∀N:Names,jx N (.c H.length j) d=d:=fun N=>by
    have:=l9 N d oi;cases d<;>first|exact this|(simp[pl] at oi; done)
   rw[e1]; exact q4
  ·simp only[fE,if_neg hb] at e;obtain⟨as,g1,g2,g3⟩:=h.box b ds e;refine⟨as,by simp only[eX b (dL e)]; rw[Ie _ (TR b (by show (aJ H b).isSome=true; rw[show aJ H b=some ds from e]; rfl))]; exact g1,g2,fun j x hx=>?_⟩;obtain⟨k1,a',k2,k3⟩:=g3 j x hx;refine⟨jS mono hlen x k1,a',k2,?_⟩;rw[wq (N:=N) (N':=⟨fun c=>if c=H.length then n else N.β c,N.ν⟩) eX (fun _ _=>rfl) (fun _ _ _=>rfl) k1];exact k3
 ·rw[eU] at e1 e2; exact h.inj p q m e1 e2 e3 e4
 ·rw[eU] at e2;rcases bold e1 with⟨b1,b2⟩|b1
  ·simp only[eX b b1] at e3; exact h.bx b p b2 e2 e3
  ·subst b1;simp only[if_true] at e3;exact hnq p e2 e3
 ·rcases bold e1 with⟨b1,b2⟩|b1<;>rcases bold e2 with⟨d1,d2⟩|d1
  ·simp only[eX b b1,eX d d1] at e3; exact h.bi b d b2 d2 e3
  ·subst d1; simp only[eX b b1,if_true] at e3; exact absurd e3 (TR b b2)
  ·subst b1; simp only[eX d d1,if_true] at e3; exact absurd e3.symm (TR d d2)
  ·rw[b1,d1]
theorem Nk {env:Env} {base:Nat}:∀(n:Nat) (H:Heap),∃k,trim base env n H=H.take k
 |0,H=>⟨H.length,by simp[trim]⟩
 |n+1,H=>by
   simp only[trim];split
   ·obtain⟨k,e⟩:=Nk (env:=env) (base:=base) n (H.take n);exact⟨min k n,by rw[e,List.take_take]⟩
   ·exact⟨H.length,by simp⟩
theorem TI {p:Rt}:∀{l:List Rt},zS p l=false ↔ p∉l
 |[]=>by simp[zS]
 |q::r=>by simp only[zS,fa,decide_eq_false_iff_not,TI (l:=r),aG,not_or]; exact⟨fun h=>⟨fun e=>h.1 e.symm,h.2⟩,fun h=>⟨fun e=>h.1 e.symm,h.2⟩⟩
theorem UE (h:eW X φ w N s Ha t) {n0:Nat} {env:Env} {t1:Nat->Value}:∀(cs:List AV) (n:Nat) (used:List Rt) (ys:List AV) (hs:Heap),vW s n used cs=some (ys,hs)->mg (az s) s.H.length cs->(∀x∈cs,jR x=true->cP (fun _=>none) n0 x) ->
  ∀ (β1:Nat->Nat) (H1:Heap) (Ve:Heap),eW X φ w ⟨β1,N.ν⟩ ⟨env,H1⟩ Ve t1->n=H1.length->n0<=n->(∀b,b<n0->β1 b=N.β b) ->
   (∀i k xs m,az s (.s i)=some (k,xs)->N.ν (.s i)=some m->.s i∉used->qQ Ve (some m) k xs/\(∀b,(aJ H1 b).isSome->β1 b≠m)/\∀ q,(az ⟨env,H1⟩ q).isSome->N.ν q≠some m) ->
   ∃ My Ha2,eW X φ w ⟨My,N.ν⟩ ⟨env,H1++hs⟩ Ha2 t1/\(∀b,b<n->My b=β1 b)/\ys.length=cs.length/\eZ ys=true/\∀ (i:Nat) (x y:AV) (v:Value),cs[i]?=some x->ys[i]?=some y->bO (Rd X φ w) φ (cS N x) v->cP (fun _=>none) (H1++hs).length y/\bO (Rd X φ w) φ (cS ⟨My,N.ν⟩ y) v
 |[],n,used,ys,hs,hf,_,_,β1,H1,Ve,h1,hn,hn0,eX,EF=>by
   simp[vW] at hf;obtain⟨rfl,rfl⟩:=hf;exact⟨β1,Ve,by simpa using h1,fun _ _=>rfl,rfl,rfl,fun i x y v hx=>by simp at hx⟩
 |x::r,n,used,ys,hs,hf,dm,oi,β1,H1,Ve,h1,hn,hn0,eX,EF=>by
   have rest:=fun (n':Nat) (u':List Rt) (Df:List AV) (MC:Heap) (e:vW s n' u' r=some (Df,MC))=>UE (n0:=n0) (env:=env) (t1:=t1) h r n' u' Df MC e dm.2 (fun y hy=>oi y (by simp[hy]))
   -- a part that needs no box
   have stay:∀{y:AV} {Df:List AV},vW s n used r=some (Df,hs)->ys=y::Df->jR y=true->(∀My:Nat->Nat,(∀b,b<n->My b=β1 b)->∀v,bO (Rd X φ w) φ (cS N x) v->cP (fun _=>none) (H1++hs).length y/\bO (Rd X φ w) φ (cS ⟨My,N.ν⟩ y) v) ->
     ∃ My Ha2,eW X φ w ⟨My,N.ν⟩ ⟨env,H1++hs⟩ Ha2 t1/\(∀b,b<n->My b=β1 b)/\ys.length=(x::r).length/\eZ ys=true/\∀ (i:Nat) (x' y:AV) (v:Value),(x::r)[i]?=some x'->ys[i]?=some y->bO (Rd X φ w) φ (cS N x') v->cP (fun _=>none) (H1++hs).length y/\bO (Rd X φ w) φ (cS ⟨My,N.ν⟩ y) v:=by
    intro y Df e ey hy hyr;subst ey;obtain⟨My,Ha2,s2,b2,l2,p2,q2⟩:=rest n used Df hs e β1 H1 Ve h1 hn hn0 eX EF;refine⟨My,Ha2,s2,b2,by simp[l2],by simp[eZ,hy,p2],fun i x' z v hx hz hv=>?_⟩;cases i with
    |zero=>simp at hx hz; subst hx; subst hz; exact hyr My b2 v hv
    |succ i=>exact q2 i x' z v (by simpa using hx) (by simpa using hz) hv
   have gen:jR x=true->∀{Df},vW s n used r=some (Df,hs)->ys=x::Df->_:=fun hp {Df} e ey=>stay e ey hp fun My b2 v hv=>by
    have ho:=oi x (by simp) hp;refine⟨jS (fun p hp=>by cases hp) (by rw[bK]; omega) x ho,?_⟩;rw[Az (N:=N) (N':=⟨My,N.ν⟩) (o:=fun _=>none) (nb:=n0) (fun b hb=>by show My b=N.β b; rw[b2 b (by omega),eX b hb]) (fun p hp=>by cases hp) x ho];exact hv
   by_cases c1:∃k i len,x=.dP k (.s i) 0 len
   ·obtain⟨k,i,len,rfl⟩:=c1;simp only[vW] at hf;split at hf
    case h_2=>cases hf
    rename_i k' xs hp;split at hf
    case isFalse=>cases hf
    rename_i hc;obtain⟨rfl,rfl,hu⟩:=hc;have hu:=TI.1 hu;split at hf
    ·rename_i hl0;split at hf
     case h_2=>cases hf
     rename_i Df MC e;simp at hf;obtain⟨rfl,rfl⟩:=hf;refine stay e rfl rfl fun My b2 v hv=>⟨trivial,?_⟩;have yx:xs=[]:=List.eq_nil_of_length_eq_zero hl0;subst yx;simp only[cS,List.length_nil] at hv ⊢;split at hv
     ·cases hv with
      |sl _ _ _ _ _ a cap hb hc hh=>exact .yd _ _ _ _ _ _ (fun _ _=>undef) rfl hc (fun x hx=>by simp at hx) (fun i j x c hx=>by simp at hx) (fun i j x c hx=>by simp at hx)
     ·cases hv; exact .lx _ _
    ·rename_i hl0;split at hf
     case h_2=>cases hf
     rename_i Df MC e;simp at hf;obtain⟨rfl,rfl⟩:=hf;have eU:=h.own (.s i) k' xs hp;cases lF:N.ν (.s i) with
     |none=>
       rw[lF] at eU;have:xs=[]:=eU;subst this;simp at hl0
     |some m=>
       obtain⟨o1,o2,o3⟩:=EF i k' xs m hp lF hu;obtain⟨Ha',s2,e2,e3⟩:=h1.alE o1 (fun g sz e=>h.ZW hp lF e) o3 o2;have lt1:(H1++[some (aA xs)]).length=n+1:=by simp[hn]
       obtain⟨My,Ha2,s3,b3,l3,p3,q3⟩:=rest (n+1) (.s i::used) Df MC e _ _ _ s2 lt1.symm (by omega) (fun b hb=>by simp only[]; rw[if_neg (by omega)]; exact eX b hb) (fun i2 k2 xs2 m2 z1 z2 z3=>by
        simp only[aG,not_or] at z3;obtain⟨a1,a2,a3⟩:=EF i2 k2 xs2 m2 z1 z2 z3.2;have hmm:m2≠m:=fun e=>z3.1 (h.inj _ _ m (by rw[z1]; rfl) (by rw[hp]; rfl) (by rw[<-e]; exact z2) lF);refine⟨a1.same fun m' Wz=>by cases Wz; exact e2 m2 hmm,fun b hb=>?_,fun q hq=>a3 q (by rw[e3] at hq; exact hq)⟩;rw[fE] at hb;simp only[];split
        ·exact fun e=>hmm e.symm
        ·rename_i qd; rw[if_neg qd] at hb; exact a2 b hb)
       rw[dJ] at s3;refine⟨My,Ha2,s3,fun b hb=>by rw[b3 b (by omega)]; simp only[]; rw[if_neg (by omega)],by simp[l3],by simp[eZ,jR,p3],fun j x' z v hx hz hv=>?_⟩;rw[dJ] at q3;cases j with
       |succ j=>exact q3 j x' z v (by simpa using hx) (by simpa using hz) hv
       |zero=>
         simp at hx hz;subst hx; subst hz;refine⟨by simp only[cP]; simp; omega,?_⟩;simp only[cS,lF,Nat.zero_mul] at hv ⊢;have:My n=m:=by rw[b3 n (by omega)]; simp only[]; rw[if_pos hn]
         rw[this]; exact hv
   ·rw[vW] at hf
    ·split at hf
     case isFalse=>cases hf
     rename_i hp;split at hf
     case h_2=>cases hf
     rename_i Df MC e;simp at hf;obtain⟨rfl,rfl⟩:=hf;exact gen hp e rfl
    ·exact fun k i len e=>c1 ⟨k,i,len,e⟩
theorem akI {o:Rt->Option (Nat × List AV)} {nb:Nat} {x:AV} (h:cP o nb x):cP o nb (Mz x):=by
 cases x<;>first|exact h|trivial
theorem agS {R:Addr->Value->Prop} {x:AV} {v:Value} (r:bO R φ (cS N x) v):bO R φ (cS N (Mz x)) v:=by
 cases x<;>first|exact r|exact .any _ _
theorem ahu (h:eW X φ w N s Ha (tm a)) (hb:(∀b,b<base->N.β b=B b)/\base<=s.H.length) (hv:bO (Rd X φ w) φ (cS N v) v') (hk:cP (az s) s.H.length v) {r:AV} {H':Heap} (hf:finX base s v=some (r,H')) :
  ∃ φ',SB X φ' w B base ⟨[(0,r)],H'⟩ (fun i=>if i=0 then v' else undef)/\fg φ w φ' w:=by
 unfold finX at hf;split at hf
 case h_2=>cases hf
 rename_i cs M4;split at hf
 case isFalse=>cases hf
 rename_i hp;split at hf
 case h_2=>cases hf
 rename_i ys hs hbx;simp only[af,aC] at hf;obtain⟨rfl,rfl⟩:=hf;simp only[cP] at hk;have hkL:=gE.1 hk
 -- the parts without what becomes boxes
 have OB:jR (.dt (cs.map Mz))=true:=hp;have iv:=AK OB
 have hk0:cP (az s) s.H.length (.dt (cs.map Mz)):=by
  simp only[cP];refine gE.2 fun i c hc=>?_;rw[cn] at hc;cases e:cs[i]? with
  |none=>rw[e] at hc; cases hc
  |some x=>rw[e] at hc; simp at hc; subst hc; exact akI (hkL i x e)
 have TO:bO (Rd X φ w) φ (cS N (.dt (cs.map Mz))) v':=by
  simp only[cS] at hv ⊢;cases hv with
  |dt _ _ vs hl hh=>
    refine .dt _ _ _ (by rw[dQ] at hl ⊢; simpa using hl) fun i c u hc hu=>?_;rw[oB,cn] at hc;cases e:cs[i]? with
    |none=>rw[e] at hc; cases hc
    |some x=>
      rw[e] at hc;simp at hc;subst hc;exact agS (hh i _ u (by rw[oB,e]; rfl) hu)
 have h1:=h.leave (i0:=fw) (r:=.any) M4 rfl;have okp:∀{o:Rt->Option (Nat × List AV)} {nb Od:Nat} {x:AV},nb<=Od->jR x=true->cP o nb x->cP (fun _=>none) Od x:=fun hn hp ho=>Kw hn _ hp ho;have h2:=h1.WV (r2:=.dt (cs.map Mz)) rfl OB (okp (by rw[fM]; exact aO _) OB hk0) TO;have h4:=eW.trim (base0:=base) s.H.length h2;obtain⟨kt,et⟩:=Nk (env:=[(0,.dt (cs.map Mz))]) (base:=base) s.H.length (gn qS s.H);have hbl:=Rf (env:=[(0,.dt (cs.map Mz))]) (base:=base) s.H.length (gn qS s.H) (by rw[fM]; exact hb.2);generalize hH1:trim base [(0,.dt (cs.map Mz))] s.H.length (gn qS s.H)=H1 at *
 have back:∀b ds,aJ H1 b=some ds->aJ (gn qS s.H) b=some ds:=by
  intro b ds e;rw[et,tQ] at e;split at e
  ·exact e
  ·cases e
 have box:∀b,(aJ H1 b).isSome->(aJ s.H b).isSome:=by
  intro b e;obtain⟨ds,e⟩:=aU.1 e;have:=back b ds e;rw[fF] at this;cases hc:aJ s.H b with
  |none=>rw[hc] at this; cases this
  |some _=>rfl
 have own1:∀q,(az ⟨[(0,.dt (cs.map Mz))],H1⟩ q).isSome->(∀i,q≠.s i)/\(az s q).isSome:=by
  intro q e
  have hs0:∀i,bV (get (⟨[(0,.dt (cs.map Mz))],H1⟩:St).env i)=false:=fun i=>by
   show bV (get [(0,.dt (cs.map Mz))] i)=false;rw[wH]; split
   ·exact iv
   ·rfl
  cases q with
  |s i=>rw[(dR (hs0 i)).1] at e; cases e
  |sc i j=>rw[(dR (hs0 i)).2 j] at e; cases e
  |c b j=>
    refine⟨fun i e=>(by cases e),?_⟩;rw[<-iO P9 s (.c b j)];obtain⟨⟨k0,xs0⟩,e0⟩:=aU.1 e;have e1:=cC.1 e0;simp only[at_] at e1;cases hc:aJ H1 b with
    |none=>rw[hc] at e1; cases e1
    |some ds=>
      rw[hc] at e1;have e2:=back b ds hc;have:az (cB qS s) (.c b j)=some (k0,xs0):=cC.2 (by simp only[at_,cB,e2]; exact e1);rw[this]; rfl
 obtain⟨My,Ha2,s2,b2,l2,p2,q2⟩:=UE h (n0:=H1.length) (env:=[(0,.dt (cs.map Mz))]) cs H1.length [] ys hs hbx hk (fun x hx hpx=>by
  obtain⟨i,hi⟩:=bE hx;have e0:=h4.Iz 0;have e1:cP (az ⟨[(0,.dt (cs.map Mz))],H1⟩) H1.length (.dt (cs.map Mz)):=e0;simp only[cP] at e1;have e2:=gE.1 e1 i (Mz x) (by rw[cn,hi]; rfl);have e3:Mz x=x:=by cases x<;>first|rfl|(simp[jR] at hpx; done)
  rw[e3] at e2;exact okp (aO _) hpx e2) N.β H1 Ha h4 rfl (aO _) (fun _ _=>rfl) (fun i k xs m z1 z2 _=>by
  have ho:=h.own (.s i) k xs z1;rw[z2] at ho;refine⟨ho,fun b hb e=>h.bx b (.s i) (box b hb) (by rw[z1]; rfl) (by rw[z2,e]),fun q hq e=>?_⟩;obtain⟨g1,g2⟩:=own1 q hq;exact g1 i (h.inj q (.s i) m g2 (by rw[z1]; rfl) e z2))
 have hr:jR (.dt ys)=true:=p2
 have s3:=s2.WV (r2:=.dt ys) (v':=v') OB hr (by
  simp only[cP];refine gE.2 fun i y hy=>?_;obtain⟨x,hx⟩:=bq (l:=cs) (i:=i) (by have:=ak hy; omega);simp only[cS] at hv;cases hv with
  |dt _ _ vs hl hh=>
    obtain⟨u,hu⟩:=bX (l:=vs) (i:=i) (by have:=ak hx; rw[dQ] at hl; omega);exact (q2 i x y u hx hy (hh i _ u (by rw[oB,hx]; rfl) hu)).1) (by
  simp only[cS] at hv ⊢;cases hv with
  |dt _ _ vs hl hh=>
    refine .dt _ _ _ (by rw[dQ] at hl ⊢; omega) fun i c u hc hu=>?_;rw[oB] at hc;cases e:ys[i]? with
    |none=>rw[e] at hc; cases hc
    |some y=>
      rw[e] at hc;simp at hc;subst hc;obtain⟨x,hx⟩:=bq (l:=cs) (i:=i) (by have:=ak e; omega);exact (q2 i x y u hx e (hh i _ u (by rw[oB,hx]; rfl) hu)).2)
 exact⟨φ,⟨_,_,s3,fun b bF=>by show My b=B b; rw[b2 b (by omega)]; exact hb.1 b bF,by show base<=(H1++hs).length; rw[bK]; omega⟩,.refl _ _⟩
theorem ahs (h:eW X φ w N s Ha (tm a)) (hb:(∀b,b<base->N.β b=B b)/\base<=s.H.length) (hv:bO (Rd X φ w) φ (cS N v) v') (hk:cP (az s) s.H.length v) (iv:bV v=false) {r:AV} {H':Heap} (hf:mM base s v=some (r,H')) :
  ∃ φ',SB X φ' w B base ⟨[(0,r)],H'⟩ (fun i=>if i=0 then v' else undef)/\fg φ w φ' w:=by
 unfold mM at hf;split at hf
 case h_2=>cases hf
 rename_i M4;simp only at hf;split at hf
 case isFalse=>cases hf
 rename_i hp;simp only[af,aC] at hf;obtain⟨rfl,rfl⟩:=hf;have wP:=dU.quiet (t:=tm a) h hb hk (nU iv) (by rw[nq N iv]; exact hv);obtain⟨nE,⟨N2,Ha2,PC,wU⟩,a2⟩:=SB.eE (aS v) (wP.put fw M4);have h3:=PC.leave (i0:=fw) rfl hp;simp only[if_true] at h3;refine⟨nE,⟨N2,Ha2,?_,wU.1,?_⟩,a2⟩
 ·exact eW.trim (base0:=base) _ h3
 ·exact Rf _ _ (by rw[fM]; exact wU.2)
theorem shOK (dm:fj P c) (wQ:xl P c) {n:Nat} (hs:UQ P c n):ShOK P c n:=by
 intro f md q hf hm args H r H' h lG X φ w B vargs hl MB hg;unfold o9 at h;split at h
 ·rename_i x A5;unfold MP at A5;split at A5
  case h_2=>cases A5
  rename_i g Q3;rw[h] at A5;replace h:=A5;exact wQ f g md q Q3 hf args H r H' (.inl hm) h (fun _=>lG) X φ w B vargs hl MB hg
 ·rw[hf] at h;simp only at h;split at h
  case isFalse=>cases h
  rename_i hle;obtain⟨fn,h1,h2⟩:=dm.fn f md q hf;simp only[cI,ae,decide_eq_true_eq] at h2;obtain⟨⟨⟨⟨hn,amD⟩,_⟩,hres⟩,vT⟩:=h2;split at vT
  case h_2=>cases vT
  rename_i code hb;have EA:(vargs++s9 (fn.ntmps-vargs.size) undef).size=q.n:=by simp; omega
  have htm:tm { tmps:=vargs++s9 (fn.ntmps-vargs.size) undef,defers:=[] }=fun i=>vargs.getD i undef:=by
   funext i;simp only[tm,bh];by_cases hi:i<vargs.size
   ·rw[Array.getElem?_append_left hi]
   ·rw[Array.getElem?_append_right (by omega),Array.getElem?_replicate];rw[Array.getElem?_eq_none (by omega)];split<;>rfl
  have hS:E0 X φ w B H.length ⟨dH 0 args,H⟩ { tmps:=vargs++s9 (fn.ntmps-vargs.size) undef,defers:=[] } q.n:=⟨by rw[htm]; exact MB,rfl,EA⟩
  have fin:∀{e:Ex} {s:St} {vs:List AV},cW c n H.length q.body ⟨dH 0 args,H⟩=some (e,s)->(e=.ret\/e=.normal)->sd c s q.res=some vs->bI md H.length s (qq vs)=some (r,H')->Calls P f vargs w (Io X φ w B H.length r H'):=by
   intro e s vs he hre QZ WC;refine calls_of_wp h1 hb (hs q.n H.length code q.body _ s e (by omega) vT he X φ w B _ hS hg _ fun a' w' φ' hS' wW=>?_);obtain⟨N,Ha,AF,hbB⟩:=hS'.sb;obtain⟨xas,x1,x2,x3,x4⟩:=acg AF (hg.nZ wW) QZ;obtain⟨v,k1,k2⟩:=Gi (P:=P) (s:=⟨Dg N s.env,Ha⟩) (ts:=a'.tmps) (fun i=>by rw[oY]; exact AF.env i) AF.heap hres x1;unfold bI at WC;rw[hm,if_pos rfl] at WC
   have amF:∃nE,SB X nE w' B H.length ⟨[(0,r)],H'⟩ (fun i=>if i=0 then v else undef)/\fg φ' w' nE w':=by
    split at WC
    ·exact ahu AF hbB (x2 _ _ _ k2) x3 WC
    ·exact ahs AF hbB (x2 _ _ _ k2) x3 x4 WC
   obtain⟨nE,s2,a2⟩:=amF;have:bodyPost P fn (Io X φ w B H.length r H') .ret a' w':=⟨hS'.defers,v,k1,v,nE,rfl,s2,wW.trans a2⟩;rcases hre with rfl|rfl
   ·exact this
   ·exact this
  split at h
  ·rename_i s he;split at h
   ·rename_i vs QZ;exact fin he (.inl rfl) QZ h
   ·cases h
  ·rename_i s he;split at h
   ·rename_i vs QZ;exact fin he (.inr rfl) QZ h
   ·cases h
  ·cases h
end
end Go.Bm

/- A state whose older heap holds no more than what is referred to; calls of functions that share boxes. -/
namespace Go.Bm
open Go.Am
mutual
def jf (G:Nat->Prop):AV->Prop
 |.ptr b _=>G b
 |.sl _ b _ _=>G b
 |.agg cs=>oF G cs
 |.dt cs=>oF G cs
 |.func _ a b=>oF G a/\oF G b
 |_=>True
def oF (G:Nat->Prop):List AV->Prop
 |[]=>True
 |x::r=>jf G x/\oF G r
end
theorem qw {G:Nat->Prop}:∀{cs:List AV},oF G cs ↔ ∀(i:Nat) (c:AV),cs[i]?=some c->jf G c
 |[]=>by simp[oF]
 |x::r=>by
   simp only[oF,qw (cs:=r)];constructor
   ·rintro⟨h1,h2⟩ i c hc;cases i with
    |zero=>simp at hc; exact hc▸h1
    |succ i=>exact h2 i c (by simpa using hc)
   ·intro h;exact⟨h 0 x rfl,fun i c hc=>h (i+1) c (by simpa using hc)⟩
theorem bO.refs {R R':Addr->Value->Prop} (hR:∀a u,R a u->R' a u) {G:Nat->Prop} {φ:dj} {x:AV} {v:Value} (h:bO R φ x v):∀{φ':dj},jf G x->φ.length<=φ'.length->(∀b,G b->∀p,φ'[b]?=some (some p)->φ[b]?=some (some p))->bO R' φ' x v:=by
 induction h with
 |any=>intro φ' _ _ _; exact .any _ _
 |undef=>intro φ' _ _ _; exact .undef _
 |fN=>intro φ' _ _ _; exact .fN _
 |fS=>intro φ' _ _ _; exact .fS _
 |du=>intro φ' _ _ _; exact .du _
 |int=>intro φ' _ _ _; exact .int _ _ _
 |bool=>intro φ' _ _ _; exact .bool _ _
 |str=>intro φ' _ _ _; exact .str _ _
 |agg φ cs vs hl h ih=>intro φ' hx hp hb; simp only[jf] at hx; exact .agg _ _ _ hl fun i c v h1 h2=>ih i c v h1 h2 (qw.1 hx i c h1) hp hb
 |dt φ cs vs hl h ih=>intro φ' hx hp hb; simp only[jf] at hx; exact .dt _ _ _ hl fun i c v h1 h2=>ih i c v h1 h2 (qw.1 hx i c h1) hp hb
 |CI φ b r hb h=>intro φ' hx hp iE; simp only[jf,oF] at hx; exact .CI _ _ _ (by omega) fun g sz e=>h g sz (iE b hx.2.1 _ e)
 |func φ f as va bs vb hy CW CV ha hb iha ihb=>intro φ' hx hp EE; simp only[jf] at hx; exact .func _ _ _ _ _ _ hy CW CV (fun i c v h1 h2=>iha i c v h1 h2 (qw.1 hx.1 i c h1) hp EE) (fun i c v h1 h2=>ihb i c v h1 h2 (qw.1 hx.2 i c h1) hp EE)
 |yd φ k xs a n cap u hn iC hk hu h ih=>intro φ' _ _ _; exact .yd _ _ _ _ _ _ u hn iC hk (fun i j x c h1 h2=>hR _ _ (hu i j x c h1 h2)) (fun i j x c h1 h2=>(h i j x c h1 h2).mono hR (.refl _))
 |lx=>intro φ' _ _ _; exact .lx _ _
 |dy φ cs a u hu h ih=>intro φ' _ _ _; exact .dy _ _ _ u (fun j c h1=>hR _ _ (hu j c h1)) (fun j c h1=>(h j c h1).mono hR (.refl _))
 |ptr φ b off a hb h=>intro φ' hx hp iE; exact .ptr _ _ _ _ (by omega) fun g sz e=>h g sz (iE b hx _ e)
 |sl φ k b off len a cap hb hc h=>intro φ' hx hp iE; exact .sl _ _ _ _ _ _ _ (by omega) hc fun g sz e=>h g sz (iE b hx _ e)
mutual
theorem PI {G:Nat->Prop} {N:Names} {o:Rt->Option (Nat × List AV)} {nb:Nat} (eX:∀b,b<nb->G (N.β b)) (lF:∀p,(o p).isSome->∀n,N.ν p=some n->G n):∀x,cP o nb x->jf G (cS N x)
 |.dP k p off len,h=>by
   simp only[cP] at h; obtain⟨xs,e,_⟩:=h;simp only[cS];cases hn:N.ν p with
   |none=>exact trivial
   |some n=>exact lF p (by rw[e]; rfl) n hn
 |.fv k p i off,h=>by
   simp only[cP] at h; obtain⟨xs,e,_⟩:=h;simp only[cS];cases hn:N.ν p with
   |none=>exact trivial
   |some n=>exact lF p (by rw[e]; rfl) n hn
 |.ptr b off,h=>by simp only[cP] at h; simp only[cS,jf]; exact eX b h
 |.agg cs,h=>by simp only[cP] at h; simp only[cS,jf]; exact yW eX lF cs h
 |.dt cs,h=>by simp only[cP] at h; simp only[cS,jf]; exact yW eX lF cs h
 |.func f a b,h=>by simp only[cP] at h; simp only[cS,jf]; exact⟨yW eX lF a h.1,yW eX lF b h.2.1⟩
 |.any,_=>trivial|.undef,_=>trivial|.fN,_=>trivial|.fS,_=>trivial|.du,_=>trivial
 |.int _ _,_=>trivial|.bool _,_=>trivial|.str _,_=>trivial|.list _ _,_=>trivial|.dy _,_=>trivial|.own _ _,_=>trivial
 |.sl _ b _ _,h=>by simp only[cP] at h; simp only[cS,jf]; exact eX b h
theorem yW {G:Nat->Prop} {N:Names} {o:Rt->Option (Nat × List AV)} {nb:Nat} (eX:∀b,b<nb->G (N.β b)) (lF:∀p,(o p).isSome->∀n,N.ν p=some n->G n):∀xs,mg o nb xs->oF G (mR N xs)
 |[],_=>trivial
 |x::r,h=>⟨PI eX lF x h.1,yW eX lF r h.2⟩
end
mutual
theorem XZ {G:Nat->Prop}:∀x,pl x=true->jf G x
 |.agg cs,h=>by simp only[pl] at h; simp only[jf]; exact yX cs h
 |.dt cs,h=>by simp only[pl] at h; simp only[jf]; exact yX cs h
 |.func f a b,h=>by simp only[pl,ae] at h; simp only[jf]; exact⟨yX a h.2.1,yX b h.2.2⟩
 |.ptr _ _,h=>by simp[pl] at h
 |.sl _ _ _ _,h=>by simp[pl] at h
 |.dP _ _ _ _,_=>trivial|.fv _ _ _ _,_=>trivial
 |.any,_=>trivial|.undef,_=>trivial|.fN,_=>trivial|.fS,_=>trivial|.du,_=>trivial
 |.int _ _,_=>trivial|.bool _,_=>trivial|.str _,_=>trivial|.list _ _,_=>trivial|.dy _,_=>trivial|.own _ _,_=>trivial
theorem yX {G:Nat->Prop}:∀xs,dq xs=true->oF G xs
 |[],_=>trivial
 |x::r,h=>by simp only[dq,ae] at h; exact⟨XZ x h.1,yX r h.2⟩
end
theorem acH {G:Nat->Prop} {N:Names} {o:Rt->Option (Nat × List AV)} {nb:Nat} (eX:∀b,b<nb->G (N.β b)) (lF:∀p,(o p).isSome->∀n,N.ν p=some n->G n) {r:Rt} {x:AV} (hr:∀k xs,x=.own k xs->(o r).isSome) (h:cP o nb x):jf G (jx N r x):=by
 cases x<;>simp only[jx]<;>first|exact PI eX lF _ h|skip
 rename_i k xs;simp only[rU];cases hn:N.ν r with
 |none=>exact trivial
 |some n=>exact lF r (hr k xs rfl) n hn
mutual
theorem IA {o o':Rt->Option (Nat × List AV)} {nb Od:Nat} (hn:nb<=Od):∀x,(∀p∈aS x,o' p=o p)->cP o nb x->cP o' Od x
 |.dP k p off len,ho,h=>by simp only[cP] at h ⊢; obtain⟨xs,e,h2⟩:=h; exact⟨xs,by rw[ho p (by simp[aS])]; exact e,h2⟩
 |.fv k p i off,ho,h=>by simp only[cP] at h ⊢; obtain⟨xs,e,h2⟩:=h; exact⟨xs,by rw[ho p (by simp[aS])]; exact e,h2⟩
 |.ptr b off,_,h=>by simp only[cP] at h ⊢; omega
 |.agg cs,ho,h=>by simp only[cP] at h ⊢; exact Eb hn cs (by simpa only[aS] using ho) h
 |.dt cs,ho,h=>by simp only[cP] at h ⊢; exact Eb hn cs (by simpa only[aS] using ho) h
 |.func f a b,ho,h=>by
   simp only[aS,aF] at ho;simp only[cP] at h ⊢; exact⟨Eb hn a (fun p hp=>ho p (.inl hp)) h.1,Eb hn b (fun p hp=>ho p (.inr hp)) h.2.1,h.2.2⟩
 |.any,_,_=>trivial|.undef,_,_=>trivial|.fN,_,_=>trivial|.fS,_,_=>trivial|.du,_,_=>trivial
 |.int _ _,_,_=>trivial|.bool _,_,_=>trivial|.str _,_,_=>trivial|.list _ _,_,_=>trivial|.dy _,_,_=>trivial|.own _ _,_,_=>trivial
 |.sl _ b _ _,_,h=>by simp only[cP] at h ⊢; omega
theorem Eb {o o':Rt->Option (Nat × List AV)} {nb Od:Nat} (hn:nb<=Od):∀xs,(∀p∈dn xs,o' p=o p)->mg o nb xs->mg o' Od xs
 |[],_,_=>trivial
 |x::r,ho,h=>by
   simp only[dn,aF] at ho;exact⟨IA hn x (fun p hp=>ho p (.inl hp)) h.1,Eb hn r (fun p hp=>ho p (.inr hp)) h.2⟩
end
theorem EY:∀{H:Heap},kg H=true->(∀b,b<H.length->(aJ H b).isSome)/\∀ b cs,aJ H b=some cs->∀p∈dn cs,eJ p=false
 |[],_=>⟨fun b hb=>by simp at hb,fun b cs h=>by simp[aJ] at h⟩
 |none::r,h=>by simp[kg] at h
 |some ds::r,h=>by
   simp only[kg,ae,bJ] at h;obtain⟨h1,h2⟩:=EY h.2;refine⟨fun b hb=>?_,fun b cs hb=>?_⟩
   ·cases b with
    |zero=>simp[aJ]
    |succ b=>have:=h1 b (by simpa using hb); simpa[aJ] using this
   ·cases b with
    |zero=>
      simp[aJ] at hb;subst hb;intro p hp;exact lK h.1 p hp
    |succ b=>exact h2 b cs (by simpa[aJ] using hb)
section
variable {P:Program} {X:Nat->Prop} {φ lV φ':dj} {w w1 w':World} {N N1 N':Names} {s s' s1:St} {Ha:Heap} {B:Nat->Nat} {base:Nat} {v va:AV} {v':Value} {c:eI} {a:Act} {call:Nat->List AV->Heap->Option (AV × Heap)} {t:Nat->Value}
structure Norm (X:Nat->Prop) (φ:dj) (w:World) (N:Names) (s:St) (t:Nat->Value) (nE:dj) (H2:Heap):Prop where
 AF:eW (fun g=>X g\/(bQ φ g/\¬ bQ nE g)) nE w N s H2 t
 nZ:fg φ w nE w
 good:∀n,(aJ H2 n).isSome->(∃b,(aJ s.H b).isSome/\N.β b=n)\/∃ p,(az s p).isSome/\N.ν p=some n
 refs:∀n cs,aJ H2 n=some cs->∀c∈cs,jf (fun m=>(aJ H2 m).isSome) c
 sub:∀(n:Nat) (p:Nat × Nat),nE[n]?=some (some p)->φ[n]?=some (some p)
 live:∀(n:Nat) (p:Nat × Nat),nE[n]?=some (some p)->(aJ H2 n).isSome
 len:nE.length=φ.length
theorem eW.norm (h:eW X φ w N s Ha t) (lG:∀b,b<s.H.length->(aJ s.H b).isSome):∃nE H2,Norm X φ w N s t nE H2:=by
 have hP:∀n,∃B:Vf,(∀b cs,aJ s.H b=some cs->N.β b=n->B=some (Vs N (.c b) 0 cs))/\(∀p k xs,az s p=some (k,xs)->N.ν p=some n->B=some (aA xs))/\(B.isSome->(∃b,(aJ s.H b).isSome/\N.β b=n)\/∃ p,(az s p).isSome/\N.ν p=some n):=by
  intro n;by_cases h1:∃b cs,aJ s.H b=some cs/\N.β b=n
  ·obtain⟨b,cs,hb,hn⟩:=h1;refine⟨some (Vs N (.c b) 0 cs),fun b' cs' iE Q0=>?_,fun p k xs hp Q0=>?_,fun _=>.inl ⟨b,by rw[hb]; rfl,hn⟩⟩
   ·have e:=h.bi b b' (by rw[hb]; rfl) (by rw[iE]; rfl) (by rw[hn,Q0]);subst e;rw[hb] at iE; cases iE; rfl
   ·exact absurd (by rw[Q0,hn]) (h.bx b p (by rw[hb]; rfl) (by rw[hp]; rfl))
  ·by_cases h2:∃p k xs,az s p=some (k,xs)/\N.ν p=some n
   ·obtain⟨p,k,xs,hp,hn⟩:=h2;refine⟨some (aA xs),fun b cs hb Q0=>absurd ⟨b,cs,hb,Q0⟩ h1,fun p' k' xs' TP Q0=>?_,fun _=>.inr ⟨p,by rw[hp]; rfl,hn⟩⟩;have e:=h.inj p p' n (by rw[hp]; rfl) (by rw[TP]; rfl) hn Q0;subst e;rw[hp] at TP; cases TP; rfl
   ·exact⟨none,fun b cs hb hn=>absurd ⟨b,cs,hb,hn⟩ h1,fun p k xs hp hn=>absurd ⟨p,k,xs,hp,hn⟩ h2,fun e=>by cases e⟩
 obtain⟨G,hG⟩:=Classical.axiomOfChoice hP;obtain⟨H2,A4,hH2⟩:=Aa Ha.length G;obtain⟨nE,hlφ,TL⟩:∃nE:dj,nE.length=φ.length/\∀ m,m<φ.length->nE[m]?=some (if (G m).isSome then (φ[m]?).join else none):=⟨(eF φ.length).map fun m=>if (G m).isSome then (φ[m]?).join else none,by simp,fun m hm=>by simp[hm]⟩;have hlen:=h.heap.len
 have blk2:∀n,n<Ha.length->aJ H2 n=G n:=fun n hn=>by
  unfold aJ; rw[hH2 n hn]; cases G n<;>rfl
 have sub:∀(n:Nat) (p:Nat × Nat),nE[n]?=some (some p)->φ[n]?=some (some p)/\(G n).isSome:=by
  intro n p hn;have bF:=ak hn;rw[hlφ] at bF;rw[TL n bF] at hn;split at hn
  ·rename_i hg;simp at hn;refine⟨?_,hg⟩;cases e:φ[n]? with
   |none=>rw[e] at hn; cases hn
   |some q=>rw[e] at hn; simp at hn; rw[hn]
  ·simp at hn
 have adH:∀g,bQ nE g->bQ φ g:=fun g ⟨b,sz,e⟩=>⟨b,sz,(sub b _ e).1⟩;have nZ:fg φ w nE w:=⟨rfl,rfl,rfl,aO _,aO _,fun g _ iv=>⟨rfl,fun ho=>iv (adH g ho)⟩,⟨by omega,fun b p _ hp=>(sub b p hp).1⟩⟩;have hR:∀a u,Rd X φ w a u->Rd (fun g=>X g\/(bQ φ g/\¬ bQ nE g)) nE w a u:=fun a u ⟨h1,h2,h3⟩=>⟨fun hx=>hx.elim h1 fun hh=>h2 hh.1,fun ho=>h2 (adH _ ho),h3⟩;have mono:∀{x:AV} {u:Value},bO (Rd X φ w) φ x u->bO (Rd (fun g=>X g\/(bQ φ g/\¬ bQ nE g)) nE w) nE x u:=fun r=>r.mono hR nZ.ZM
 have boxG:∀b cs,aJ s.H b=some cs->aJ H2 (N.β b)=some (Vs N (.c b) 0 cs):=fun b cs hb=>by
  rw[blk2 _ (h.tP (by rw[hb]; rfl))];exact (hG (N.β b)).1 b cs hb rfl
 have ownG:∀p k xs n,az s p=some (k,xs)->N.ν p=some n->aJ H2 n=some (aA xs):=fun p k xs n hp hn=>by
  rw[blk2 _ (h.gJ (by rw[hp]; rfl) hn)];exact (hG n).2.1 p k xs hp hn
 have akP:∀n,(G n).isSome->n<Ha.length->∀e,φ[n]?=some e->nE[n]?=some e:=fun n hg hn e he=>by
  rw[TL n (by omega),if_pos hg,he]; rfl
 have aeT:cj (fun g=>X g\/(bQ φ g/\¬ bQ nE g)) nE w H2:=by
  refine⟨by omega,fun g hg=>hg.elim (h.heap.Gg g) (fun ho=>(h.heap.gJ ho.1).1),fun n cs hn=>?_,fun n hn=>?_,fun n n' g sz pg e1 e2=>h.heap.inj n n' g sz pg (sub _ _ e1).1 (sub _ _ e2).1⟩
  ·have bF:n<Ha.length:=by have:=ak hn; omega
   rw[hH2 n bF] at hn;simp only[af] at hn;have hg:(G n).isSome:=by rw[hn]; rfl
   have fin:∀{as:List AV},aJ Ha n=some as->(∀(i:Nat) (d:AV),cs[i]?=some d->∃a,as[i]?=some a/\Le d a)->(cs.length<=as.length/\((∀g sz,φ[n]?=some (some (g,sz))->0<sz)\/cs.length=as.length))->∃(g sz:Nat) (arr:Array Value) (o:Obj),nE[n]?=some (some (g,sz))/\w.heap[g]?=some o/\Vw o sz arr/\(cs.length<=arr.size/\(sz=0->cs.length=arr.size))/\¬ (X g\/(bQ φ g/\¬ bQ nE g))/\∀ (i:Nat) (d:AV),cs[i]?=some d->∃u,arr[i]?=some u/\bO (Rd (fun g=>X g\/(bQ φ g/\¬ bQ nE g)) nE w) nE d u:=by
    intro as has dI hle;obtain⟨g,sz,arr,e,g1,g2,g3,g4,g5,g6⟩:=h.heap.at has;have h2:=akP n hg bF _ g1;refine⟨g,sz,arr,e,h2,g2,g3,⟨by omega,fun z=>hle.2.elim (fun hs=>absurd (hs g sz g1) (by omega)) (fun hs=>hs.trans (g4.2 z))⟩,fun hx=>hx.elim g5 fun hh=>hh.2 ⟨n,sz,h2⟩,fun i d hd=>?_⟩;obtain⟨a,ha,hle2⟩:=dI i d hd;obtain⟨u,u1,u2⟩:=g6 i a ha;exact⟨u,u1,mono (hle2 _ _ _ u2)⟩
   rcases (hG n).2.2 hg with⟨b,hb,hbn⟩|⟨p,hp,MW⟩
   ·obtain⟨ds,qe⟩:=aU.1 hb;have:=(hG n).1 b ds qe hbn;rw[hn] at this;simp at this;subst this;obtain⟨as,a1,a2,a3⟩:=h.box b ds qe;rw[hbn] at a1;refine fin a1 (fun i d hd=>?_) ⟨by rw[gH]; omega,.inr (by rw[gH]; omega)⟩;rw[gb] at hd;cases hi:ds[i]? with
    |none=>rw[hi] at hd; cases hd
    |some d0=>
      rw[hi] at hd;simp at hd;subst hd;obtain⟨_,a',b1,b2⟩:=a3 i d0 hi;exact⟨a',b1,b2⟩
   ·obtain⟨⟨k,xs⟩,hpx⟩:=aU.1 hp;have:=(hG n).2.1 p k xs hpx MW;rw[hn] at this;simp at this;subst this;have ho:=h.own p k xs hpx;rw[MW] at ho;obtain⟨cs0,c1,c2,c3,c4⟩:=ho;refine fin c1 (fun i d hd=>?_) ⟨by rw[gN c3]; exact c2,.inl fun g sz e=>h.ZW hpx MW e⟩;obtain⟨_,a',b1,_,b2⟩:=c4 i d hd;exact⟨a',b1,b2⟩
  ·have bF:n<Ha.length:=by have:=ak hn; omega
   rw[hH2 n bF] at hn;simp only[af] at hn;rw[TL n (by omega),hn];rfl
 refine⟨nE,H2,⟨⟨fun i=>mono (h.env i),h.Iz,aeT,fun p k xs e=>?_,fun b cs e=>?_,h.inj,h.bx,h.bi⟩,nZ,fun n hn=>?_,fun n cs hn d hd=>?_,fun n p hp=>(sub n p hp).1,fun n p hp=>?_,hlφ⟩⟩
 ·have ho:=h.own p k xs e;cases hn:N.ν p with
  |none=>rw[hn] at ho; exact ho
  |some n=>
    rw[hn] at ho;obtain⟨cs0,c1,c2,c3,c4⟩:=ho;refine⟨aA xs,ownG p k xs n e hn,by rw[gN c3]; exact aO _,c3,fun i d hd=>?_⟩;obtain⟨f1,_⟩:=c4 i d hd;exact⟨f1,d,hd,(mh f1).2,Le.refl _⟩
 ·obtain⟨as,a1,a2,a3⟩:=h.box b cs e;refine⟨_,boxG b cs e,gH _ _ _ _,fun j d hd=>?_⟩;obtain⟨b1,_⟩:=a3 j d hd;exact⟨b1,jx N (.c b j) d,by rw[gb,hd]; simp,Le.refl _⟩
 ·obtain⟨cs,dI⟩:=aU.1 hn;have bF:n<Ha.length:=by have:=dL dI; omega
  exact (hG n).2.2 (by rw[<-blk2 n bF]; exact hn)
 ·have eX:∀b,b<s.H.length->(aJ H2 (N.β b)).isSome:=fun b hb=>by
   obtain⟨ds,qe⟩:=aU.1 (lG b hb);rw[boxG b ds qe]; rfl
  have lF:∀p,(az s p).isSome->∀n,N.ν p=some n->(aJ H2 n).isSome:=fun p hp n hn=>by
   obtain⟨⟨k,xs⟩,hpx⟩:=aU.1 hp;rw[ownG p k xs n hpx hn]; rfl
  have bF:n<Ha.length:=by have:=dL hn; omega
  rcases (hG n).2.2 (by rw[<-blk2 n bF,hn]; rfl) with⟨b,hb,hbn⟩|⟨p,hp,MW⟩
  ·obtain⟨ds,qe⟩:=aU.1 hb;have e:=boxG b ds qe;rw[hbn,hn] at e;cases e;obtain⟨j,hj⟩:=bE hd;rw[gb] at hj;cases hi:ds[j]? with
   |none=>rw[hi] at hj; cases hj
   |some d0=>
     rw[hi] at hj;simp at hj;subst hj;obtain⟨as,a1,a2,a3⟩:=h.box b ds qe
     exact acH (o:=az s) (nb:=s.H.length) eX lF (r:=.c b j) (fun k xs e=>by
      have:az s (.c b j)=some (k,xs):=cC.2 (by simp only[at_,qe,hi,e]);rw[this]; rfl) (a3 j d0 hi).1
  ·obtain⟨⟨k,xs⟩,hpx⟩:=aU.1 hp;have e:=ownG p k xs n hpx MW;rw[hn] at e;cases e;have ho:=h.own p k xs hpx;rw[MW] at ho;obtain⟨cs0,c1,c2,c3,c4⟩:=ho;obtain⟨j,hj⟩:=bE hd;exact XZ d (mh (c4 j d hj).1).1
 ·have bF:n<Ha.length:=by have:=ak hp; omega
  rw[blk2 n bF];exact (sub n p hp).2
end
end Go.Bm

/- Calls of functions that share boxes. -/
namespace Go.Bm
open Go.Am
section
variable {P:Program} {X:Nat->Prop} {φ lV φ':dj} {w w1 w':World} {N N1 N':Names} {s s' s1:St} {Ha:Heap} {B:Nat->Nat} {base:Nat} {v va:AV} {v':Value} {c:eI} {o:Oper} {a:Act} {kd:Kd} {call:Nat->List AV->Heap->Option (AV × Heap)} {t:Nat->Value}
theorem zA:∀{l:List AV},eZ l=true->∀(i:Nat) (z:AV),l[i]?=some z->jR z=true
 |[],_,i,z,hz=>by simp at hz
 |y::r,h,i,z,hz=>by
   simp only[eZ,ae] at h;cases i with
   |zero=>simp at hz; subst hz; exact h.1
   |succ i=>exact zA h.2 i z (by simpa using hz)
theorem eW.enter (h:eW X φ w N s Ha t) (lG:kg s.H=true) {args:List AV} {vargs:Array Value} (hp:eZ args=true) (ho:∀(i:Nat) (x:AV),args[i]?=some x->cP (az s) s.H.length x) (hr:∀(i:Nat) (x:AV) (v:Value),args[i]?=some x->vargs[i]?=some v->bO (Rd X φ w) φ (cS N x) v) (hl:args.length=vargs.size) :
  eW X φ w N ⟨dH 0 args,s.H⟩ Ha (fun i=>vargs.getD i undef):=by
 have BU:∀i,get (dH 0 args) i=args[i]?.getD .any:=fun i=>by rw[sZ]; simp
 have iv:∀i,bV (get (dH 0 args) i)=false:=fun i=>by
  rw[BU];cases e:args[i]? with
  |none=>rfl
  |some x=>exact AK (zA hp i x e)
 have own:∀{p},(az ⟨dH 0 args,s.H⟩ p).isSome->∃b j,p=.c b j:=by
  intro p TP;cases p with
  |s i=>rw[(dR (s:=⟨dH 0 args,s.H⟩) (iv i)).1] at TP; cases TP
  |sc i j=>rw[(dR (s:=⟨dH 0 args,s.H⟩) (iv i)).2 j] at TP; cases TP
  |c b j=>exact⟨b,j,rfl⟩
 have box:∀b j,az ⟨dH 0 args,s.H⟩ (.c b j)=az s (.c b j):=fun b j=>rfl;obtain⟨_,hbor⟩:=EY lG;have aeI:∀{p:Rt},eJ p=false->∃b j,p=.c b j:=fun{p} hp=>by cases p<;>simp[eJ] at hp; exact⟨_,_,rfl⟩
 refine⟨fun i=>?_,fun i=>?_,h.heap,fun p k xs e=>?_,fun b cs e=>?_,fun p q n e1 e2 e3 e4=>?_,fun b p e1 e2 e3=>?_,h.bi⟩
 ·show bO _ _ (lT N i (get (dH 0 args) i)) _;rw[AA N i (iv i),BU];cases e:args[i]? with
  |none=>exact .any _ _
  |some x=>
    obtain⟨v,hv⟩:=bX (l:=vargs) (i:=i) (by have:=ak e; omega);simp only[Option.getD_some];rw[bh,hv];exact hr i x v e hv
 ·show cP _ _ (get (dH 0 args) i);rw[BU];cases e:args[i]? with
  |none=>trivial
  |some x=>exact Kw (aO _) x (zA hp i x e) (ho i x e)
 ·obtain⟨b,j,rfl⟩:=own (p:=p) (by rw[e]; rfl);exact h.own _ k xs e
 ·obtain⟨as,g1,g2,g3⟩:=h.box b cs e;refine⟨as,g1,g2,fun j d hd=>?_⟩;obtain⟨g4,g5⟩:=g3 j d hd;refine⟨IA (aO _) d (fun p TP=>?_) g4,g5⟩;obtain⟨b',j',rfl⟩:=aeI (hbor b cs e p (mX hd TP));rfl
 ·obtain⟨b,j,rfl⟩:=own e1;obtain⟨b',j',rfl⟩:=own e2;exact h.inj _ _ n e1 e2 e3 e4
 ·obtain⟨b',j,rfl⟩:=own e2;exact h.bx b (.c b' j) e1 e2 e3
theorem shared (h:eW X φ w N s Ha t) (hb:(∀b,b<base->N.β b=B b)/\base<=s.H.length) {WV:Env} {t0:Nat->Value} {nE:dj} {H2:Heap} (hn:Norm X φ w N ⟨WV,s.H⟩ t0 nE H2) (h0:∀i,bV (get WV i)=false)
  {r:AV} {H' H1:Heap} {t1:Nat->Value} (fY:eW (fun g=>X g\/(bQ φ g/\¬ bQ nE g)) lV w1 N1 ⟨[(0,r)],H'⟩ H1 t1) (ad:fg nE w lV w1) (eX:∀b,b<s.H.length->N1.β b=N.β b) (hle:s.H.length<=H'.length) (OC:kg H'=true) (hbr:aS r=[]) (iv:bV r=false) :
  ∃ φ',dU X φ' w1 B base ⟨lZ pE s.env,H'⟩ r t (t1 0)/\fg φ w φ' w1:=by
 obtain⟨aaI,hbor⟩:=EY OC;have aeI:∀{p:Rt},eJ p=false->∃b j,p=.c b j:=fun{p} hp=>by cases p<;>simp[eJ] at hp; exact⟨_,_,rfl⟩
 obtain⟨Nd,H3,h3⟩:=fY.norm aaI;have l3:=h3.AF.heap.len;have l1:=h.heap.len;have l2:=hn.len;have l2h:=hn.AF.heap.len;have pl:An nE Nd:=ad.ZM.trans h3.nZ.ZM;have hlen:φ.length<=Nd.length:=by have:=pl.len; omega
 have ad2:fg nE w Nd w1:=ad.trans h3.nZ
 -- hidden: known to the caller, not to the callee
 let hid:Nat->Bool:=fun n=>decide (n<φ.length)&&!(nE[n]?.join).isSome
 have hid3:∀n,hid n=true->Nd[n]?=some none/\aJ H3 n=none:=by
  intro n hh;simp only[hid,ae,decide_eq_true_eq,bJ] at hh;obtain⟨bF,hj⟩:=hh;obtain⟨e,he⟩:=bq (l:=Nd) (i:=n) (by omega)
  have h3n:Nd[n]?=some none:=by
   cases e with
   |none=>exact he
   |some p=>
     have:=pl.MQ n p (by omega) he;rw[this] at hj; simp at hj
  refine⟨h3n,?_⟩;cases hb3:aJ H3 n with
  |none=>rfl
  |some cs=>
    obtain⟨g,sz,arr,ty,g1,_⟩:=h3.AF.heap.at hb3;rw[h3n] at g1; cases g1
 have On:∀n,(aJ H3 n).isSome->hid n=false:=fun n hb3=>by
  cases hh:hid n with
  |false=>rfl
  |true=>rw[(hid3 n hh).2] at hb3; cases hb3
 obtain⟨φ4,hl4,hφ4⟩:∃φ4:dj,φ4.length=Nd.length/\∀ m,m<Nd.length->φ4[m]?=if hid m then φ[m]? else Nd[m]?:=by
  refine⟨(eF Nd.length).map fun m=>if hid m then (φ[m]?).join else (Nd[m]?).join,by simp,fun m hm=>?_⟩;simp only[cn,List.getElem?_range hm,cD];split
  ·rename_i hh;have bF:m<φ.length:=by simp only[hid,ae,decide_eq_true_eq] at hh; exact hh.1
   rw[ai bF]; rfl
  ·rw[ai hm]; rfl
 obtain⟨H4,hlh4,hH4⟩:=Aa H3.length fun m=>if hid m then (Ha[m]?).join else (H3[m]?).join
 have Vn:∀n,hid n=true->φ4[n]?=φ[n]?:=fun n hh=>by
  have bF:n<φ.length:=by simp only[hid,ae,decide_eq_true_eq] at hh; exact hh.1
  rw[hφ4 n (by omega),if_pos hh]
 have Ra:∀n,hid n=false->φ4[n]?=Nd[n]?:=fun n hh=>by
  by_cases bF:n<Nd.length
  ·rw[hφ4 n bF,hh]; rfl
  ·rw[cE (by omega),cE (by omega)]
 have H4h:∀n,hid n=true->H4[n]?=Ha[n]?:=fun n hh=>by
  have bF:n<φ.length:=by simp only[hid,ae,decide_eq_true_eq] at hh; exact hh.1
  rw[hH4 n (by omega),if_pos hh,ai (by omega)]; rfl
 have H4n:∀n,hid n=false->H4[n]?=H3[n]?:=fun n hh=>by
  by_cases bF:n<H3.length
  ·rw[hH4 n bF,hh,ai bF]; rfl
  ·rw[cE (by omega),cE (by omega)]
 have amQ:∀n,hid n=true->aJ H4 n=aJ Ha n:=fun n hh=>by unfold aJ; rw[H4h n hh]
 have ai5:∀n,hid n=false->aJ H4 n=aJ H3 n:=fun n hh=>by unfold aJ; rw[H4n n hh]
 have own4:∀{g},bQ φ4 g->(∃n sz,hid n=true/\φ[n]?=some (some (g,sz)))\/∃ n sz,hid n=false/\Nd[n]?=some (some (g,sz)):=by
  rintro g ⟨n,sz,e⟩;cases hh:hid n with
  |true=>rw[Vn n hh] at e; exact .inl ⟨n,sz,hh,e⟩
  |false=>rw[Ra n hh] at e; exact .inr ⟨n,sz,hh,e⟩
 have hidX:∀{n g sz},hid n=true->φ[n]?=some (some (g,sz))->bQ φ g/\¬ bQ nE g:=by
  intro n g sz hh e;refine⟨⟨n,sz,e⟩,fun⟨m,pg,e'⟩=>?_⟩;have:=h.heap.inj n m g sz pg e (hn.sub m _ e');subst this;simp only[hid,ae,decide_eq_true_eq,bJ] at hh;rw[e'] at hh; simp at hh
 have sub2:∀{g},bQ nE g->bQ φ g:=fun⟨m,sz,e⟩=>⟨m,sz,hn.sub m _ e⟩
 have nZ:fg φ w φ4 w1:=by
  refine⟨ad2.os,ad2.tape,ad2.output,ad2.drawn,ad2.size,fun g hg iv=>?_,⟨by omega,fun n p bF hp=>?_⟩⟩
  ·obtain⟨k1,k2⟩:=ad2.keep g hg (fun ho=>iv (sub2 ho));refine⟨k1,fun ho=>?_⟩;rcases own4 ho with⟨n,sz,_,e⟩|⟨n,sz,_,e⟩
   ·exact iv ⟨n,sz,e⟩
   ·exact k2 ⟨n,sz,e⟩
  ·cases hh:hid n with
   |true=>rwa [Vn n hh] at hp
   |false=>
     rw[Ra n hh] at hp;exact hn.sub n p (pl.MQ n p (by omega) hp)
 -- values of the callee
 have hR:∀a u,Rd (fun g=>(X g\/(bQ φ g/\¬ bQ nE g))\/(bQ lV g/\¬ bQ Nd g)) Nd w1 a u->Rd X φ4 w1 a u:=fun a u ⟨p1,p2,p3⟩=>⟨fun hx=>p1 (.inl (.inl hx)),fun ho=>by
  rcases own4 ho with⟨n,sz,hh,e⟩|⟨n,sz,_,e⟩
  ·exact p1 (.inl (.inr (hidX hh e)))
  ·exact p2 ⟨n,sz,e⟩,p3⟩
 have tr34:∀{x:AV} {u:Value},jf (fun m=>(aJ H3 m).isSome) x->bO (Rd (fun g=>(X g\/(bQ φ g/\¬ bQ nE g))\/(bQ lV g/\¬ bQ Nd g)) Nd w1) Nd x u->bO (Rd X φ4 w1) φ4 x u:=fun hx r=>bO.refs hR r hx (by omega) fun b hb4 p hp=>by rwa [Ra b (On b hb4)] at hp
 have aeT:cj X φ4 w1 H4:=by
  refine⟨by omega,fun g hg=>Nat.lt_of_lt_of_le (h.heap.Gg g hg) ad2.size,fun n cs e=>?_,fun n e=>?_,fun n n' g sz pg e1 e2=>?_⟩
  ·cases hh:hid n with
   |true=>
     rw[H4h n hh] at e;obtain⟨g,sz,arr,ty,g1,g2,g3,g4,g5,g6⟩:=h.heap.live n cs e;have hx:=hidX hh g1;refine⟨g,sz,arr,ty,by rw[Vn n hh]; exact g1,?_,g3,g4,g5,fun i d hd=>?_⟩
     ·rw[(ad2.keep g (h.heap.gJ hx.1).1 hx.2).1]; exact g2
     ·obtain⟨u,u1,u2⟩:=g6 i d hd;exact⟨u,u1,nZ.rep u2⟩
   |false=>
     rw[H4n n hh] at e;obtain⟨g,sz,arr,ty,g1,g2,g3,g4,g5,g6⟩:=h3.AF.heap.live n cs e;refine⟨g,sz,arr,ty,by rw[Ra n hh]; exact g1,g2,g3,g4,fun hx=>g5 (.inl (.inl hx)),fun i d hd=>?_⟩;obtain⟨u,u1,u2⟩:=g6 i d hd;exact⟨u,u1,tr34 (h3.refs n cs (blk_iff.2 e) d (bn hd)) u2⟩
  ·cases hh:hid n with
   |true=>rw[H4h n hh] at e; rw[Vn n hh]; exact h.heap.dead n e
   |false=>rw[H4n n hh] at e; rw[Ra n hh]; exact h3.AF.heap.dead n e
  ·have mix:∀{n n' sz pg},hid n=true->hid n'=false->φ[n]?=some (some (g,sz))->Nd[n']?=some (some (g,pg))->False:=by
    intro n n' sz pg hh hh' e1 e2;obtain⟨cs,dI⟩:=aU.1 (h3.live n' _ e2);obtain⟨g',sz2,arr,ty,g1,_,_,_,g5,_⟩:=h3.AF.heap.at dI;rw[e2] at g1; cases g1;exact g5 (.inl (.inr (hidX hh e1)))
   cases hh:hid n with
   |true=>
     rw[Vn n hh] at e1;cases hh':hid n' with
     |true=>rw[Vn n' hh'] at e2; exact h.heap.inj n n' g sz pg e1 e2
     |false=>rw[Ra n' hh'] at e2; exact (mix hh hh' e1 e2).elim
   |false=>
     rw[Ra n hh] at e1;cases hh':hid n' with
     |true=>rw[Vn n' hh'] at e2; exact (mix hh' hh e2 e1).elim
     |false=>rw[Ra n' hh'] at e2; exact h3.AF.heap.inj n n' g sz pg e1 e2
 -- names
 let Nb:Names:=⟨N1.β,N.ν⟩
 let N4:Names:=⟨N1.β,fun p=>match p with
  |.c b j=>N1.ν (.c b j)
  |p=>N.ν p⟩
 have adG:∀i,az ⟨lZ pE s.env,H'⟩ (.s i)=az s (.s i):=fun i=>by
  rw[<-iO AU s (.s i)]; rfl
 have VX:∀i j,az ⟨lZ pE s.env,H'⟩ (.sc i j)=az s (.sc i j):=fun i j=>by
  rw[<-iO AU s (.sc i j)]; rfl
 have ami:∀b j,az ⟨lZ pE s.env,H'⟩ (.c b j)=az ⟨[(0,r)],H'⟩ (.c b j):=fun b j=>rfl
 have PB:∀{p},(az ⟨lZ pE s.env,H'⟩ p).isSome->((∃b j,p=.c b j)/\az ⟨lZ pE s.env,H'⟩ p=az ⟨[(0,r)],H'⟩ p/\N4.ν p=N1.ν p)\/((∀b j,p≠.c b j)/\az ⟨lZ pE s.env,H'⟩ p=az s p/\N4.ν p=N.ν p):=by
  intro p hp;cases p with
  |s i=>exact .inr ⟨(fun _ _ e=>by cases e),adG i,rfl⟩
  |sc i j=>exact .inr ⟨(fun _ _ e=>by cases e),VX i j,rfl⟩
  |c b j=>exact .inl ⟨⟨b,j,rfl⟩,ami b j,rfl⟩
 -- blocks of slots are hidden
 have Qp:∀{p n},(∀b j,p≠.c b j)->(az s p).isSome->N.ν p=some n->hid n=true:=by
  intro p n hpc hp hnu;have bF:n<Ha.length:=h.gJ hp hnu;simp only[hid,ae,decide_eq_true_eq,bJ];refine⟨by omega,?_⟩;cases e:(nE[n]?).join with
  |none=>rfl
  |some q=>
    exfalso
    have e':nE[n]?=some (some q):=by
     cases e2:nE[n]? with
     |none=>rw[e2] at e; cases e
     |some z=>rw[e2] at e; simp at e; rw[e]
    rcases hn.good n (hn.live n q e') with⟨b,BV,wU⟩|⟨p',hp1,hp2⟩
    ·exact h.bx b p BV hp (by rw[hnu,<-wU])
    ·have hc:∃b j,p'=.c b j:=by
      cases p' with
      |s i=>rw[(dR (s:=⟨WV,s.H⟩) (h0 i)).1] at hp1; cases hp1
      |sc i j=>rw[(dR (s:=⟨WV,s.H⟩) (h0 i)).2 j] at hp1; cases hp1
      |c b j=>exact⟨b,j,rfl⟩
     obtain⟨b,j,rfl⟩:=hc;have:=h.inj p (.c b j) n hp hp1 hnu hp2;exact hpc b j this
 have box3:∀b,(aJ H' b).isSome->(aJ H3 (N1.β b)).isSome:=fun b iE=>by
  obtain⟨cs,dI⟩:=aU.1 iE;obtain⟨as,a1,_⟩:=h3.AF.box b cs dI;rw[a1]; rfl
 have own3:∀{p n},(az ⟨[(0,r)],H'⟩ p).isSome->N1.ν p=some n->(aJ H3 n).isSome:=by
  intro p n hp hnu;obtain⟨⟨k,xs⟩,e⟩:=aU.1 hp;have:=h3.AF.own p k xs e;rw[hnu] at this;obtain⟨cs,h1,_⟩:=this;rw[h1]; rfl
 have hl:∀k p a l,(cP (az s) s.H.length (.dP k p a l)->cP (az ⟨lZ pE s.env,H'⟩) s.H.length (pE (.dP k p a l))/\Le (cS N4 (pE (.dP k p a l))) (cS Nb (.dP k p a l)))/\(cP (az s) s.H.length (.fv k p a l)->cP (az ⟨lZ pE s.env,H'⟩) s.H.length (pE (.fv k p a l))/\Le (cS N4 (pE (.fv k p a l))) (cS Nb (.fv k p a l))):=by
  intro k p a l;cases p with
  |s i=>
    refine⟨fun h=>⟨?_,Le.refl _⟩,fun h=>⟨?_,Le.refl _⟩⟩
    ·simp only[pE,cP] at h ⊢; rw[adG]; exact h
    ·simp only[pE,cP] at h ⊢; rw[adG]; exact h
  |sc i j=>
    refine⟨fun h=>⟨?_,Le.refl _⟩,fun h=>⟨?_,Le.refl _⟩⟩
    ·simp only[pE,cP] at h ⊢; rw[VX]; exact h
    ·simp only[pE,cP] at h ⊢; rw[VX]; exact h
  |c b j=>exact⟨fun _=>⟨trivial,Le.any _⟩,fun _=>⟨trivial,Le.any _⟩⟩
 have hsim:eW X φ4 w1 N4 ⟨lZ pE s.env,H'⟩ H4 t:=by
  refine⟨fun i=>?_,fun i=>?_,aeT,fun p k xs e=>?_,fun b cs e=>?_,fun p q n e1 e2 e3 e4=>?_,fun b p e1 e2 e3=>?_,fun b d e1 e2 e3=>h3.AF.bi b d e1 e2 e3⟩
  ·show bO _ _ (lT N4 i (get (lZ pE s.env) i)) _;rw[dx];have r0:=nZ.rep (h.env i);have e0:lT N i (get s.env i)=lT Nb i (get s.env i):=B7 (N:=Nb) (N':=N) (o:=az s) (nb:=s.H.length) (fun b iE=>(eX b iE).symm) (fun _ _=>rfl) rfl (fun _=>rfl) (h.Iz i);rw[e0] at r0;refine aes (N:=Nb) (N':=N4) (x:=get s.env i) (y:=cT pE (get s.env i)) (fun cs dI=>⟨dc pE cs,by rw[dI]; rfl,cN _ _,fun j c d hc hd=>?_⟩) (fun hna=>⟨nS AU hna,?_⟩) _ _ _ r0
   ·rw[eV,hc] at hd;simp at hd;subst hd;have dm:=h.Iz i;rw[dI] at dm;simp only[cP] at dm;exact (nT (N:=Nb) (N':=N4) (o:=az s) (o':=az ⟨lZ pE s.env,H'⟩) (nb:=s.H.length) (g:=pE) rfl AU hl (r:=.sc i j) (fun _ _ _=>rfl) (gE.1 dm j c hc)).2
   ·exact (nT (N:=Nb) (N':=N4) (o:=az s) (o':=az ⟨lZ pE s.env,H'⟩) (nb:=s.H.length) (g:=pE) rfl AU hl (r:=.s i) (fun _ _ _=>rfl) (h.Iz i)).2
  ·show cP _ H'.length (get (lZ pE s.env) i);rw[dx];exact jS (fun _ _=>rfl) hle _ (Qa (N:=Nb) (N':=N4) (o:=az s) (o':=az ⟨lZ pE s.env,H'⟩) (nb:=s.H.length) (g:=pE) rfl AU hl _ (h.Iz i)).1
  ·rcases PB (p:=p) (by rw[e]; rfl) with⟨⟨b,j,rfl⟩,e1,e2⟩|⟨hpc,e1,e2⟩
   ·rw[e1] at e;rw[e2];exact (h3.AF.own _ k xs e).same fun n hnu=>ai5 n (On n (own3 (by rw[e]; rfl) hnu))
   ·rw[e1] at e;rw[e2];exact (h.own p k xs e).same fun n hnu=>amQ n (Qp hpc (by rw[e]; rfl) hnu)
  ·obtain⟨as,a1,a2,a3⟩:=h3.AF.box b cs e;refine⟨as,by show aJ H4 (N1.β b)=_; rw[ai5 _ (On _ (by rw[a1]; rfl))]; exact a1,a2,fun j d hd=>?_⟩;obtain⟨b1,a',b2,b3⟩:=a3 j d hd;have hbx:∀p∈aS d,∃b j,p=.c b j:=fun p hp=>aeI (hbor b cs e p (mX hd hp));refine⟨IA (aO _) d (fun p hp=>?_) b1,a',b2,?_⟩
   ·obtain⟨b',j',rfl⟩:=hbx p hp; rfl
   ·have:jx N4 (.c b j) d=jx N1 (.c b j) d:=Nl (N:=N1) (N':=N4) rfl (fun _ _ _=>rfl) fun p hp=>by obtain⟨b',j',rfl⟩:=hbx p hp; rfl
    rw[this]; exact b3
  ·rcases PB e1 with⟨Va,o1,u1⟩|⟨Va,o1,u1⟩<;>rcases PB e2 with⟨IJ,o2,u2⟩|⟨IJ,o2,u2⟩<;>rw[o1] at e1<;>rw[o2] at e2<;>rw[u1] at e3<;>rw[u2] at e4
   ·exact h3.AF.inj p q n e1 e2 e3 e4
   ·have a1:=On n (own3 e1 e3);have a2:=Qp IJ e2 e4;rw[a1] at a2; cases a2
   ·have a1:=On n (own3 e2 e4);have a2:=Qp Va e1 e3;rw[a1] at a2; cases a2
   ·exact h.inj p q n e1 e2 e3 e4
  ·rcases PB e2 with⟨IJ,o2,u2⟩|⟨IJ,o2,u2⟩<;>rw[o2] at e2<;>rw[u2] at e3
   ·exact h3.AF.bx b p e1 e2 e3
   ·have a1:=On _ (box3 b e1);have a2:=Qp IJ e2 e3;have a3:hid (N1.β b)=true:=a2;rw[a1] at a3; cases a3
 have hr0:=h3.AF.env 0;simp only[Am.get,if_true] at hr0;rw[AA N1 0 iv] at hr0;have hok0:=h3.AF.Iz 0;simp only[Am.get,if_true] at hok0;refine⟨φ4,dU.quiet hsim ⟨fun b iE=>?_,Nat.le_trans hb.2 hle⟩ (IA (aO _) r (fun p hp=>by rw[hbr] at hp; simp at hp) hok0) (nU iv) ?_,nZ⟩
 ·show N1.β b=B b;rw[eX b (by have:=hb.2; omega)]; exact hb.1 b iE
 ·rw[nq N4 iv];have:cS N4 r=cS N1 r:=I4 (N:=N1) (N':=N4) rfl fun p hp=>by rw[hbr] at hp; simp at hp
  rw[this];refine tr34 (PI (o:=az ⟨[(0,r)],H'⟩) (nb:=H'.length) (fun b iE=>box3 b (aaI b iE)) (fun p hp n hnu=>own3 hp hnu) r hok0) hr0
theorem acs (dm:fj P c) (dW:iw P c call):Mu P c call:=by
 intro X φ w B base s o a kd f args md q r H' hk h hg ha hf hm hp lG hbr iv OC hc;obtain⟨N,Ha,h,hb⟩:=h;obtain⟨vargs,oW,hA,Bt⟩:=C3 dm h hg hk ha hf
 have hent:eW X φ w N ⟨dH 0 (args.map eK),s.H⟩ Ha (fun i=>vargs.getD i undef):=by
  refine h.enter lG hp (fun i x hx=>?_) (fun i x v hx hv=>?_) (by simpa using hA.1)
  ·rw[cn] at hx;cases Lt:args[i]? with
   |none=>rw[Lt] at hx; cases hx
   |some y=>
     rw[Lt] at hx;simp at hx;subst hx;have hy:=gE.1 Bt i y Lt;unfold eK;split
     ·trivial
     ·exact hy
  ·rw[cn] at hx;cases Lt:args[i]? with
   |none=>rw[Lt] at hx; cases hx
   |some y=>
     rw[Lt] at hx;simp at hx;subst hx;have r0:=hA.2 i y v Lt hv;have hpy:=zA hp i (eK y) (by rw[cn,Lt]; rfl);by_cases ho:∃k,y=.own k []
     ·obtain⟨k,rfl⟩:=ho;simp only[gL] at r0;cases r0;exact .lx _ _
     ·have hn:eK y=y:=by
       unfold eK;split
       ·rename_i k; exact absurd ⟨k,rfl⟩ ho
       ·rfl
      rw[hn] at hpy ⊢;have hy:gL N y=cS N y:=by cases y<;>first|rfl|(simp[jR] at hpy; done)
      rw[hy] at r0;exact r0
 obtain⟨aaI,_⟩:=EY lG;obtain⟨nE,H2,hn⟩:=hent.norm aaI
 have h0:∀i,bV (get (dH 0 (args.map eK)) i)=false:=fun i=>by
  rw[sZ];simp only[Nat.zero_le,if_true,Nat.sub_zero];cases e:(args.map eK)[i]? with
  |none=>rfl
  |some x=>exact AK (zA hp i x e)
 have jL:=dW f md q hf (args.map eK) s.H r H' (.inl hm) hc (fun _=>OC) (fun g=>X g\/(bQ φ g/\¬ bQ nE g)) nE w N.β vargs (by simpa using hA.1) ⟨N,H2,hn.AF,fun _ _=>rfl,aO _⟩ (fun g=>(hg g).mono (fun a u ⟨h1,h2,h3⟩=>⟨fun hx=>hx.elim h1 fun hh=>h2 hh.1,fun⟨m,sz,e⟩=>h2 ⟨m,sz,hn.sub m _ e⟩,h3⟩) (.refl _));intro K Q hK;unfold Oper.wp;rw[oW,Oper.upon_enter];refine jL.mono ?_;rintro e w1 ⟨v',lV,rfl,⟨N1,H1,fY,BV,hle⟩,ad⟩;obtain⟨φ',wP,ad'⟩:=shared h hb hn h0 fY ad BV hle OC hbr iv;exact hK v' w1 φ' (by simpa using wP) ad'
end
end Go.Bm

/- The machine by value is sound. -/
namespace Go.Bm
open Go.Am
section
variable {P:Program} {c:eI}
theorem acp (dm:fj P c) (pW:v8 P c) (wQ:xl P c) (n:Nat):UQ P c n:=
 Vx dm pW wQ (fun call hc=>acs dm hc) (fun call hc=>alg dm (aiR dm pW hc (acs dm hc))) (fun n hs=>shOK dm wQ hs) n
theorem afw (dm:fj P c) (pW:v8 P c) (wQ:xl P c) (n:Nat):iw P c (mj c n):=O7 dm wQ (acp dm pW wQ n) (shOK dm wQ (acp dm pW wQ n))
theorem afv (dm:fj P c) (pW:v8 P c) (wQ:xl P c) {n f:Nat} {md:Md} {q:fW} (hf:c.fn f=some (md,q)) (jz:md.sh=false) {args:List AV} (hz:dq args=true) {r:AV} {H':Heap} (h:mj c n f args []=some (r,H')) (hr:pl r=true) {w:World} {vargs:Array Value}
  (ha:ud (fun _=>False) [] w args vargs) (hg:Am.dX (hU c) (fun _=>False) [] w):Calls P f vargs w (fun e w'=>∃v,e=.returned v/\bO (Rd (fun _=>False) [] w') [] r v/\RowKit.Below w.heap.size w w'):=
 ab7 dm (afw dm pW wQ n) hf jz hz h hr ha hg
theorem ab6 (dm:fj P c) (pW:v8 P c) (wQ:xl P c) {n f:Nat} {md:Md} {q:fW} (hf:c.fn f=some (md,q)) (jz:md.sh=false) {args:List AV} (hz:dq args=true) {r:AV} {H':Heap} (h:mj c n f args []=some (r,H')) (hr:pl r=true) {w:World} {vargs:Array Value}
  (ha:ud (fun _=>False) [] w args vargs) (hg:Am.dX (hU c) (fun _=>False) [] w):Calls P f vargs w (fun e w'=>∃v,e=.returned v/\bO (Rd (fun _=>False) [] w') [] r v/\∃ q os,w'=Go.Sort.grow (w.drewN q) os):=
 Xi dm (afw dm pW wQ n) hf jz hz h hr ha hg
end
end Go.Bm

/- More fuel gives the same; runs without counting fuel. -/
namespace Go.Bm
open Go.Am
section
variable {c:eI}
abbrev pf:=Nat->List AV->Heap->Option (AV × Heap)
def LeC (f g:pf):Prop:=∀n a H r,f n a H=some r->g n a H=some r
theorem WY {f g:pf} (h:LeC f g) {kd:Kd} {s:St} {x:AV × St × Fq} (e:eL c f kd s=some x):eL c g kd s=some x:=by
 unfold eL at e ⊢;split at e
 ·cases e
 rename_i n args ha
 try simp only[ha]
 split at e
 ·cases e
 rename_i md q hf
 try simp only[hf]
 split at e
 ·rename_i hm
  try rw[if_pos hm]
  split at e
  ·cases e
  rename_i uH hz
  try simp only[hz]
  split at e
  case h_2=>cases e
  rename_i r H' hc;rw[h _ _ _ _ hc];exact e
 ·rename_i hm
  try rw[if_neg hm]
  split at e
  ·cases e
  rename_i n1 qP M5
  try simp only[M5]
  split at e
  case isFalse=>cases e
  rename_i hff
  try rw[if_pos hff]
  split at e
  ·rename_i jz
   try rw[if_pos jz]
   split at e
   case isFalse=>cases e
   rename_i hp
   try rw[if_pos hp]
   split at e
   case h_2=>cases e
   rename_i r H' hc;rw[h _ _ _ _ hc];exact e
  ·rename_i jz
   try rw[if_neg jz]
   split at e
   case isFalse=>cases e
   rename_i hp
   try rw[if_pos hp]
   split at e
   case h_2=>cases e
   rename_i r H' hc;rw[h _ _ _ _ hc];exact e
theorem K2 {f:pf} {s:St} {kd:Kd} (h:po c f s kd=none) (g:pf):po c g s kd=none:=by
 unfold po at h ⊢;split at h
 ·split at h
  ·cases h
  ·rename_i hl;exact if_neg hl
 ·rfl
theorem aaq {f:pf} {s:St} {kd:Kd} {v:AV} {s1:St} {fl:Fq} (h:po c f s kd=some (some (v,s1,fl))):∃n args H r H',f n args H=some (r,H')/\∀ g:pf,g n args H=some (r,H')->po c g s kd=some (some (v,s1,fl)):=by
 obtain⟨n,x,es,b,md,q,cs,cs',rfl,h1,h2,h3,h4,h5,h6,h7,rfl,rfl⟩:=zN h;refine⟨_,_,_,_,_,h6,fun g hg=>?_⟩;unfold po;simp only;rw[if_pos h1];unfold locV;rw[h2];simp only[h3,h4];rw[if_pos h5,hg];simp only;rw[if_pos h7]
theorem ag7 {f g:pf} (h:LeC f g) {kd:Kd} {s:St} {x:AV × St × Fq} (e:po c f s kd=some (some x)):po c g s kd=some (some x):=by
 obtain⟨v,s1,fl⟩:=x;obtain⟨n,args,H,r,H',h1,h2⟩:=aaq e;exact h2 g (h _ _ _ _ h1)
theorem agY {f:pf} {fn i:Nat} {s:St} {xs:List AV} {x:AV × St × Fq} (e:SM c f fn i s xs=some x):∃n args H r H',f n args H=some (r,H')/\∀ g:pf,g n args H=some (r,H')->SM c g fn i s xs=some x:=by
 unfold SM at e ⊢;split at e
 case h_2=>cases e
 rename_i md q k p len hf ha;split at e
 case h_2=>cases e
 rename_i k' ys hp;split at e
 case isFalse=>cases e
 rename_i hc;split at e
 case h_2=>cases e
 rename_i k2 zs H' II;refine⟨_,_,_,_,_,II,fun g hg=>?_⟩;rw[if_pos hc,hg];exact e
theorem Oh {f:pf} {kd:Kd} {s:St} {x:AV × St × Fq} (e:vc c f s kd=some (some x)):∃n args H r H',f n args H=some (r,H')/\∀ g:pf,g n args H=some (r,H')->vc c g s kd=some (some x):=by
 unfold vc at e;split at e
 case h_2=>cases e
 rename_i fn es;split at e
 case h_2=>cases e
 rename_i i hi;simp only[af] at e;obtain⟨n,args,H,r,H',h1,h2⟩:=agY e;exact⟨n,args,H,r,H',h1,fun g hg=>by simp only[vc,hi,h2 g hg]⟩
theorem CK {f:pf} {kd:Kd} {s:St} (h:vc c f s kd=none) (g:pf):vc c g s kd=none:=by
 unfold vc at h ⊢;split at h
 ·split at h
  ·cases h
  ·rename_i hm;simp only[hm]
 ·rfl
theorem WZ {f g:pf} (h:LeC f g) {kd:Kd} {s:St} {x:AV × St × Fq} (e:gG c f kd s=some x):gG c g kd s=some x:=by
 unfold gG at e ⊢;cases hm:vc c f s kd with
 |none=>
   rw[hm] at e;rw[CK hm g];obtain⟨v,s1,fl⟩:=x;rcases jM e with e|e
   ·exact tE (WY h e)
   ·obtain⟨n,args,H,r,H',h1,h2⟩:=XN e;exact LL (h2 g (h _ _ _ _ h1))
 |some r=>
   rw[hm] at e;simp only at e;subst e;obtain⟨n,args,H,r,H',h1,h2⟩:=Oh hm;rw[h2 g (h _ _ _ _ h1)]
theorem LM {f g:pf} (h:LeC f g) {kd:Kd} {s:St} {x:AV × St × Fq} (e:dF c f kd s=some x):dF c g kd s=some x:=by
 unfold dF at e ⊢;cases hi:rV c s kd with
 |some r=>rw[hi] at e; exact e
 |none=>
   rw[hi] at e;cases hl:po c f s kd with
   |none=>rw[hl] at e; rw[K2 hl g]; exact WZ h e
   |some r=>
     rw[hl] at e;simp only at e;subst e;rw[ag7 h hl]
theorem KC {f g:pf} {s:St} {kd:Kd} (h:oU kd=false):fk c f s kd=fk c g s kd:=by
 cases kd<;>first|rfl|(simp[oU] at h)
theorem PS {f g:pf} (h:LeC f g) {kd:Kd} {s:St} {x:AV × St × Fq} (e:fk c f s kd=some x):fk c g s kd=some x:=by
 cases hk:oU kd with
 |false=>rw[<-KC (f:=f) hk]; exact e
 |true=>
   cases kd<;>simp[oU] at hk
   ·simp only[fk] at e ⊢; exact LM h e
   ·simp only[fk] at e ⊢; exact LM h e
theorem I7 {f g:pf} (h:LeC f g) {s:St} {o:O} {x:St × Fq} (e:uh c f s o=some x):uh c g s o=some x:=by
 have op:∀{y:AV × St × Fq} {K:AV × St × Fq->Option (St × Fq)},fk c f s o.kd=some y->fk c g s o.kd=some y:=fun h'=>PS h h';rw[yQ] at e ⊢;cases hv:HY c f s o with
 |none=>rw[hv] at e; cases e
 |some y=>
   have:HY c g s o=some y:=by
    unfold HY at hv ⊢;split at hv
    ·exact PS h hv
    ·split at hv
     ·split at hv
      ·rename_i hb; simp only[hb,if_true]; exact PS h hv
      ·rename_i hb; simp only[hb,if_false]; exact hv
     ·exact hv
     ·cases hv
   rw[hv] at e;rw[this];exact e
theorem Iy {f g:pf} (h:LeC f g):∀{os:List O} {s:St} {x:St × List Fq},oQ c f os s=some x->oQ c g os s=some x
 |[],s,x,e=>e
 |o::r,s,x,e=>by
   simp only[oQ] at e ⊢;split at e
   case h_2=>cases e
   rename_i s1 fl h1;rw[I7 h h1];simp only;split at e
   case h_2=>cases e
   rename_i s2 rW h2;rw[Iy h h2];exact e
def LeR (f g:Nat->C->St->Option (Ex × St)):Prop:=∀b cd s x,f b cd s=some x->g b cd s=some x
theorem L5 {f g:Nat->C->St->Option (Ex × St)} (h:LeR f g):LeC (o9 c f) (o9 c g):=by
 intro n a H r e;unfold o9 at e ⊢;split at e
 ·exact e
 split at e
 ·cases e
 split at e
 case isFalse=>cases e
 rename_i md fn hf hl;simp only[hl,if_true];split at e
 ·rename_i s' hs; rw[h _ _ _ _ hs]; exact e
 ·rename_i s' hs; rw[h _ _ _ _ hs]; exact e
 ·cases e
theorem LQ:∀n,LeR (cW c n) (cW c (n+1))
 |0=>fun b cd s x e=>by simp[cW] at e
 |n+1=>by
   have ih:=LQ n;intro b cd s x e;unfold cW at e ⊢;cases cd with
   |skip=>exact e
   |ret=>exact e
   |exit i=>exact e
   |pI os dr un keep=>
     simp only at e ⊢;split at e
     case h_2=>cases e
     rename_i s' rW hs;rw[Iy (L5 ih) hs];exact e
   |seq a b'=>
     simp only at e ⊢;cases h1:cW c n b a s with
     |none=>rw[h1] at e; cases e
     |some y=>
       obtain⟨ex,s1⟩:=y;rw[h1] at e;rw[ih _ _ _ _ h1];cases ex with
       |normal=>exact ih _ _ _ _ e
       |exit i=>exact e
       |ret=>exact e
   |cond y a b'=>
     simp only at e ⊢;split at e
     ·rename_i t ht;split at e
      ·rename_i h1; simp only[h1,if_true]; exact ih _ _ _ _ e
      ·rename_i h1; simp only[h1,if_false,bk]; exact ih _ _ _ _ e
     ·cases e
   |aJ i b'=>
     simp only at e ⊢;cases h1:cW c n b b' s with
     |none=>rw[h1] at e; cases e
     |some y=>
       rw[h1] at e;rw[ih _ _ _ _ h1];exact e
   |loop b'=>
     simp only at e ⊢;cases h1:cW c n b b' s with
     |none=>rw[h1] at e; cases e
     |some y=>
       obtain⟨ex,s1⟩:=y;rw[h1] at e;rw[ih _ _ _ _ h1];cases ex with
       |normal=>exact ih _ _ _ _ e
       |exit i=>exact e
       |ret=>exact e
theorem tG {n m:Nat} (h:n<=m):LeR (cW c n) (cW c m):=by
 induction h with
 |refl=>exact fun _ _ _ _ e=>e
 |step _ ih=>exact fun b cd s x e=>LQ _ b cd s x (ih b cd s x e)
open Classical in
noncomputable def aY (c:eI) (b:Nat) (cd:C) (s:St):Option (Ex × St):=if h:∃n x,cW c n b cd s=some x then some (Dk (jQ h)) else none
theorem df {b:Nat} {cd:C} {s:St} {x:Ex × St}:aY c b cd s=some x ↔ ∃n,cW c n b cd s=some x:=by
 unfold aY;constructor
 ·intro e;split at e
  ·rename_i h;have:=jQ (jQ h);exact⟨_,bm e▸this⟩
  ·cases e
 ·rintro⟨n,e⟩;have h:∃n x,cW c n b cd s=some x:=⟨n,x,e⟩;rw[dif_pos h];have:=jQ (jQ h);have h1:=tG (Aq n (Dk h)) _ _ _ _ e;have h2:=tG (yl n (Dk h)) _ _ _ _ this;rw[h1] at h2;cases h2;rfl
noncomputable def bu (c:eI) (f:Nat) (args:List AV) (H:Heap):Option (AV × Heap):=o9 c (aY c) f args H
theorem nW (n:Nat):LeR (cW c n) (aY c):=fun b cd s x e=>df.2 ⟨n,e⟩
theorem Bg (n:Nat):LeC (mj c n) (bu c):=L5 (nW n)
theorem ia {f:Nat} {args:List AV} {H:Heap} {r:AV × Heap}:bu c f args H=some r ↔ ∃n,mj c n f args H=some r:=by
 constructor
 ·intro e;unfold bu o9 at e;split at e
  case h_1=>
   rename_i g hg;exact⟨0,by unfold mj o9; rw[hg]; exact e⟩
  rename_i ho;split at e
  ·cases e
  rename_i md fn hf;split at e
  case isFalse=>cases e
  rename_i hl;split at e
  ·rename_i s' hs;obtain⟨n,hn⟩:=df.1 hs;exact⟨n,by unfold mj o9; simp only[ho,hf,hl,if_true,hn]; exact e⟩
  ·rename_i s' hs;obtain⟨n,hn⟩:=df.1 hs;exact⟨n,by unfold mj o9; simp only[ho,hf,hl,if_true,hn]; exact e⟩
  ·cases e
 ·rintro⟨n,e⟩;exact Bg n _ _ _ _ e
theorem UC {n m:Nat} (h:n<=m):LeC (mj c n) (mj c m):=L5 (tG h)
theorem Z2 {s:St} {kd:Kd} {x:AV × St × Fq}:fk c (bu c) s kd=some x ↔ ∃n,fk c (mj c n) s kd=some x:=by
 constructor
 ·intro e;cases hk:oU kd with
  |false=>exact⟨0,by rw[KC (g:=bu c) hk]; exact e⟩
  |true=>
    have key0:∀{kd:Kd},eL c (bu c) kd s=some x->∃n,eL c (mj c n) kd s=some x:=by
     intro kd e;unfold eL at e;split at e
     ·cases e
     rename_i f args ha;split at e
     ·cases e
     rename_i md q hf;split at e
     ·rename_i hm;split at e
      ·cases e
      rename_i uH hz;split at e
      case h_2=>cases e
      rename_i r H' hc;obtain⟨n,hn⟩:=ia.1 hc;refine⟨n,?_⟩;unfold eL;simp only[ha,hf,hm,if_true,hz,hn];exact e
     ·rename_i hm;split at e
      ·cases e
      rename_i f1 qP M5;split at e
      case isFalse=>cases e
      rename_i hff;split at e
      ·rename_i jz;split at e
       case isFalse=>cases e
       rename_i hp;split at e
       case h_2=>cases e
       rename_i r H' hc;obtain⟨n,hn⟩:=ia.1 hc;refine⟨n,?_⟩;unfold eL;rw[ha];simp only[hf];rw[if_neg hm,M5];simp only;rw[if_pos hff,if_pos jz,if_pos hp,hn];exact e
      ·rename_i jz;split at e
       case isFalse=>cases e
       rename_i hp;split at e
       case h_2=>cases e
       rename_i r H' hc;obtain⟨n,hn⟩:=ia.1 hc;refine⟨n,?_⟩;unfold eL;rw[ha];simp only[hf];rw[if_neg hm,M5];simp only;rw[if_pos hff,if_neg jz,if_pos hp,hn];exact e
    have key1:∀{kd:Kd},gG c (bu c) kd s=some x->∃n,gG c (mj c n) kd s=some x:=by
     intro kd e;unfold gG at e ⊢;cases hm:vc c (bu c) s kd with
     |none=>
       rw[hm] at e;obtain⟨v,s1,fl⟩:=x;rcases jM e with e|e
       ·obtain⟨n,hn⟩:=key0 e;exact⟨n,by rw[CK hm]; exact tE hn⟩
       ·obtain⟨m,args,H,r,H',h1,h2⟩:=XN e;obtain⟨n,hn⟩:=ia.1 h1;exact⟨n,by rw[CK hm]; exact LL (h2 _ hn)⟩
     |some r=>
       rw[hm] at e;simp only at e;subst e;obtain⟨m,args,H,r,H',h1,h2⟩:=Oh hm;obtain⟨n,hn⟩:=ia.1 h1;exact⟨n,by rw[h2 _ hn]⟩
    have key:∀{kd:Kd},dF c (bu c) kd s=some x->∃n,dF c (mj c n) kd s=some x:=by
     intro kd e;unfold dF at e ⊢;cases hi:rV c s kd with
     |some r=>rw[hi] at e; exact⟨0,e⟩
     |none=>
       rw[hi] at e;cases hl:po c (bu c) s kd with
       |none=>
         rw[hl] at e;obtain⟨n,hn⟩:=key1 e;exact⟨n,by rw[K2 hl]; exact hn⟩
       |some r=>
         rw[hl] at e;simp only at e;subst e;obtain⟨m,args,H,r,H',h1,h2⟩:=aaq (v:=x.1) (s1:=x.2.1) (fl:=x.2.2) hl;obtain⟨n,hn⟩:=ia.1 h1;exact⟨n,by rw[h2 _ hn]⟩
    cases kd<;>simp[oU] at hk
    ·simp only[fk] at e ⊢; exact key e
    ·simp only[fk] at e ⊢; exact key e
 ·rintro⟨n,e⟩;exact PS (Bg n) e
theorem abt {s:St} {o:O} {x:St × Fq}:uh c (bu c) s o=some x ↔ ∃n,uh c (mj c n) s o=some x:=by
 constructor
 ·intro e;rw[yQ] at e;cases hv:HY c (bu c) s o with
  |none=>rw[hv] at e; cases e
  |some y=>
    have:∃n,HY c (mj c n) s o=some y:=by
     unfold HY at hv ⊢;split at hv
     ·obtain⟨n,hn⟩:=Z2.1 hv;exact⟨n,hn⟩
     ·split at hv
      ·split at hv
       ·rename_i hb;obtain⟨n,hn⟩:=Z2.1 hv;exact⟨n,by simp only[hb,if_true]; exact hn⟩
       ·rename_i hb; exact⟨0,by simp only[hb,if_false]; exact hv⟩
      ·exact⟨0,hv⟩
      ·cases hv
    obtain⟨n,hn⟩:=this;refine⟨n,?_⟩;rw[hv] at e;rw[yQ,hn];exact e
 ·rintro⟨n,e⟩;exact I7 (Bg n) e
theorem KA:∀{os:List O} {s:St} {x:St × List Fq},oQ c (bu c) os s=some x ↔ ∃n,oQ c (mj c n) os s=some x
 |[],s,x=>⟨fun e=>⟨0,e⟩,fun⟨_,e⟩=>e⟩
 |o::r,s,x=>by
   constructor
   ·intro e;simp only[oQ] at e;split at e
    case h_2=>cases e
    rename_i s1 fl h1;split at e
    case h_2=>cases e
    rename_i s2 rW h2;obtain⟨n,hn⟩:=abt.1 h1;obtain⟨m,hm⟩:=KA.1 h2;refine⟨max n m,?_⟩;simp only[oQ];rw[I7 (UC (Aq n m)) hn];simp only;rw[Iy (UC (yl n m)) hm];exact e
   ·rintro⟨n,e⟩;exact Iy (Bg n) e
theorem D5 {α:Type} {a b:Option α} (h:∀x,a=some x ↔ b=some x):a=b:=by
 cases a with
 |none=>cases b with
   |none=>rfl
   |some y=>exact ((h y).2 rfl)
 |some x=>exact ((h x).1 rfl).symm
variable {b:Nat} {s:St}
theorem LP:aY c b .skip s=some (.normal,s):=df.2 ⟨1,rfl⟩
theorem OW:aY c b .ret s=some (.ret,s):=df.2 ⟨1,rfl⟩
theorem W9 {i:Nat}:aY c b (.exit i) s=some (.exit i,s):=df.2 ⟨1,rfl⟩
noncomputable def Nn (c:eI) (b:Nat) (y:C):Option (Ex × St)->Option (Ex × St)
 |some (.normal,s')=>aY c b y s'
 |r=>r
def regL (dr:Bool) (os:List O) (un:List (Nat × Nat)) (base:Nat) (keep:List Nat):Option (St × List Fq)->Option (Ex × St)
 |some (s',rW)=>if dr=false\/OS os rW un=true then (match WW base keep s' with
   |some s2=>some (.normal,s2)
   |none=>none) else none
 |none=>none
def blkL (i:Nat):Option (Ex × St)->Option (Ex × St)
 |some (.exit j,s')=>if j=i then some (.normal,s') else some (.exit j,s')
 |r=>r
theorem ft {x y:C}:aY c b (.seq x y) s=Nn c b y (aY c b x s):=by
 apply D5;intro z;constructor
 ·intro e;obtain⟨n,hn⟩:=df.1 e;cases n with
  |zero=>simp[cW] at hn
  |succ n=>
    simp only[cW] at hn;cases h1:cW c n b x s with
    |none=>rw[h1] at hn; cases hn
    |some w=>
      obtain⟨ex,s1⟩:=w;rw[h1] at hn;rw[nW n _ _ _ _ h1];cases ex with
      |normal=>exact nW n _ _ _ _ hn
      |exit i=>exact hn
      |ret=>exact hn
 ·intro e;cases h1:aY c b x s with
  |none=>rw[h1] at e; cases e
  |some w=>
    obtain⟨ex,s1⟩:=w;rw[h1] at e;obtain⟨n,hn⟩:=df.1 h1;cases ex with
    |normal=>
      obtain⟨m,hm⟩:=df.1 e;refine df.2 ⟨max n m+1,?_⟩;simp only[cW];rw[tG (Aq n m) _ _ _ _ hn];exact tG (yl n m) _ _ _ _ hm
    |exit i=>exact df.2 ⟨n+1,by simp only[cW]; rw[hn]; exact e⟩
    |ret=>exact df.2 ⟨n+1,by simp only[cW]; rw[hn]; exact e⟩
theorem tF {x:C}:aY c b (.loop x) s=Nn c b (.loop x) (aY c b x s):=by
 apply D5;intro z;constructor
 ·intro e;obtain⟨n,hn⟩:=df.1 e;cases n with
  |zero=>simp[cW] at hn
  |succ n=>
    simp only[cW] at hn;cases h1:cW c n b x s with
    |none=>rw[h1] at hn; cases hn
    |some w=>
      obtain⟨ex,s1⟩:=w;rw[h1] at hn;rw[nW n _ _ _ _ h1];cases ex with
      |normal=>exact nW n _ _ _ _ hn
      |exit i=>exact hn
      |ret=>exact hn
 ·intro e;cases h1:aY c b x s with
  |none=>rw[h1] at e; cases e
  |some w=>
    obtain⟨ex,s1⟩:=w;rw[h1] at e;obtain⟨n,hn⟩:=df.1 h1;cases ex with
    |normal=>
      obtain⟨m,hm⟩:=df.1 e;refine df.2 ⟨max n m+1,?_⟩;simp only[cW];rw[tG (Aq n m) _ _ _ _ hn];exact tG (yl n m) _ _ _ _ hm
    |exit i=>exact df.2 ⟨n+1,by simp only[cW]; rw[hn]; exact e⟩
    |ret=>exact df.2 ⟨n+1,by simp only[cW]; rw[hn]; exact e⟩
theorem OZ {i:Nat} {x:C}:aY c b (.aJ i x) s=blkL i (aY c b x s):=by
 apply D5;intro z;constructor
 ·intro e;obtain⟨n,hn⟩:=df.1 e;cases n with
  |zero=>simp[cW] at hn
  |succ n=>
    simp only[cW] at hn;cases h1:cW c n b x s with
    |none=>rw[h1] at hn; cases hn
    |some w=>rw[h1] at hn; rw[nW n _ _ _ _ h1]; exact hn
 ·intro e;cases h1:aY c b x s with
  |none=>rw[h1] at e; cases e
  |some w=>
    obtain⟨n,hn⟩:=df.1 h1;rw[h1] at e;exact df.2 ⟨n+1,by simp only[cW]; rw[hn]; exact e⟩
theorem Xa {v:E} {t:Bool} {x y:C} (h:bp c s.env v=.bool t):aY c b (.cond v x y) s=if t then aY c b x s else aY c b y s:=by
 apply D5;intro z;constructor
 ·intro e;obtain⟨n,hn⟩:=df.1 e;cases n with
  |zero=>simp[cW] at hn
  |succ n=>
    simp only[cW,h] at hn;cases t with
    |true=>exact nW n _ _ _ _ hn
    |false=>exact nW n _ _ _ _ hn
 ·intro e;cases t with
  |true=>obtain⟨n,hn⟩:=df.1 e; exact df.2 ⟨n+1,by simp only[cW,h]; exact hn⟩
  |false=>obtain⟨n,hn⟩:=df.1 e; exact df.2 ⟨n+1,by simp only[cW,h]; exact hn⟩
theorem OX {os:List O} {dr:Bool} {un:List (Nat × Nat)} {keep:List Nat}:aY c b (.pI os dr un keep) s=regL dr os un b keep (oQ c (bu c) os s):=by
 apply D5;intro z;constructor
 ·intro e;obtain⟨n,hn⟩:=df.1 e;cases n with
  |zero=>simp[cW] at hn
  |succ n=>
    simp only[cW] at hn;split at hn
    case h_2=>cases hn
    rename_i s' rW h1;rw[KA.2 ⟨n,h1⟩];exact hn
 ·intro e;cases h1:oQ c (bu c) os s with
  |none=>rw[h1] at e; cases e
  |some w=>
    obtain⟨n,hn⟩:=KA.1 h1;rw[h1] at e;refine df.2 ⟨n+1,?_⟩;simp only[cW];have Q0:oQ c (o9 c (cW c n)) os s=some w:=hn;rw[Q0];exact e
theorem afx {f:Nat} {md:Md} {q:fW} {args:List AV} {H:Heap} (ho:c.orc f=none) (hf:c.fn f=some (md,q)) (hl:args.length<=q.n):bu c f args H=(match aY c H.length q.body ⟨dH 0 args,H⟩ with
  |some (.ret,s)=>(match sd c s q.res with
    |some vs=>bI md H.length s (qq vs)
    |none=>none)
  |some (.normal,s)=>(match sd c s q.res with
    |some vs=>bI md H.length s (qq vs)
    |none=>none)
  |_=>none):=by
 unfold bu o9;simp only[MP,ho,hf,hl,if_true];generalize aY c H.length q.body ⟨dH 0 args,H⟩=z;cases z with
 |none=>rfl
 |some w=>
   obtain⟨e,s⟩:=w;cases e<;>rfl
end
end Go.Bm

/- Arguments that came in, by value; answers that are bools. -/
namespace Go.Am
open Go.ChangeShapes Go.WideShapes
def Pm (k:IntKind) (w:World) (a:Option Addr) (len cap:Nat) (zs:List Int):Prop:=
 (a=none/\len=0/\cap=0/\zs=[]) \/
 ∃ x,a=some x/\len<=cap/\cap<=maxLen/\zs.length=cap/\(∀i,i<zs.length->w.cell? (x.add i)=some (.int k (zs.getD i 0)))/\∀ n∈zs,(Lit.int k n).wf=true
theorem acx {k:IntKind} {w:World} {a:Option Addr} {len cap:Nat} {zs:List Int} (h:Pm k w a len cap zs):bO (Rd (fun _=>False) [] w) [] (.list 1 ((zs.take len).map (AV.int k))) (.slice a len cap):=by
 rcases h with⟨rfl,rfl,rfl,rfl⟩|⟨x,rfl,hl,hm,hz,iS,hwz⟩
 ·exact .lx _ _
 ·refine .yd _ 1 _ x len cap (fun i _=>.int k (zs.getD i 0)) (by simp; omega) hl ?_ ?_ ?_
  ·intro y hy;obtain⟨n,_,rfl⟩:=List.mem_map.mp hy;rfl
  ·intro i j y c hy hc;have hi:i<((zs.take len).map (AV.int k)).length:=(List.getElem?_eq_some_iff.mp hy).1;simp at hi;rw[cn] at hy;cases MS:(zs.take len)[i]? with
   |none=>rw[MS] at hy; cases hy
   |some n=>
     rw[MS] at hy;cases hy;cases j with
     |succ j=>simp[AV.cells] at hc
     |zero=>exact⟨id,bQ.nil _,by simpa using iS i (by omega)⟩
  ·intro i j y c hy hc;rw[cn] at hy;cases MS:(zs.take len)[i]? with
   |none=>rw[MS] at hy; cases hy
   |some n=>
     rw[MS] at hy;cases hy;cases j with
     |succ j=>simp[AV.cells] at hc
     |zero=>
       simp[AV.cells] at hc;subst hc
       have e:zs.getD i 0=n:=by
        rw[bP] at MS;split at MS
        ·simp[List.getD,MS]
        ·cases MS
       rw[e];exact .int _ _ _
theorem ud.nil {X:Nat->Prop} {φ:dj} {w:World}:ud X φ w [] #[]:=⟨rfl,fun i x v h=>by simp at h⟩
theorem ud.cons {X:Nat->Prop} {φ:dj} {w:World} {x:AV} {v:Value} {xs:List AV} {vs:List Value} (h:bO (Rd X φ w) φ x v) (r:ud X φ w xs vs.toArray):ud X φ w (x::xs) (v::vs).toArray:=by
 obtain⟨r1,r2⟩:=r;refine⟨by simpa using r1,fun i y u hy hu=>?_⟩;cases i with
 |zero=>
   simp at hy hu;subst hy hu;exact h
 |succ i=>
   refine r2 i y u (by simpa using hy) (by simpa using hu)
theorem Ry {R:Addr->Value->Prop} {φ:dj} {b:Bool} {v:Value} (h:bO R φ (.bool b) v):v=.bool b:=by cases h; rfl
end Go.Am
namespace Go.Bm
open Go.Am
theorem UB {P:Program} {c:eI} (dm:fj P c) (pW:v8 P c) (wQ:xl P c) {f:Nat} {md:Md} {q:fW} (hf:c.fn f=some (md,q)) (jz:md.sh=false) {args:List AV} {b:Bool} {H':Heap} (h:bu c f args []=some (.bool b,H')) (hz:dq args=true) {w:World} {vargs:Array Value}
  (ha:ud (fun _=>False) [] w args vargs) (hg:Am.dX (hU c) (fun _=>False) [] w):Calls P f vargs w (fun e w'=>e=.returned (.bool b)/\RowKit.Below w.heap.size w w'):=by
 obtain⟨n,hn⟩:=ia.1 h;refine (afv dm pW wQ hf jz hz hn rfl ha hg).mono ?_;rintro e w' ⟨v,rfl,hr,hb⟩;rw[Ry hr];exact⟨rfl,hb⟩
theorem aeX {c:eI} {g0:Nat} {k:IntKind} {zs:List Int} (h:∀g,c.gl g=if g=g0 then zs.map (AV.int k) else[]) {w:World} (hc:∀i,(hi:i<zs.length)->w.cell? ⟨g0,i,none⟩=some (.int k zs[i])):Am.dX (hU c) (fun _=>False) [] w:=by
 intro g;show bO _ [] (.dy (c.gl g)) _;rw[h g];split
 ·rename_i e;subst e;refine .dy _ _ _ (fun j=>.int k (zs.getD j 0)) (fun j d hj=>?_) (fun j d hj=>?_)
  ·rw[cn] at hj;cases e:zs[j]? with
   |none=>rw[e] at hj; cases hj
   |some z=>
     have bF:=ak e;refine⟨id,bQ.nil _,?_⟩;rw[Addr.ju,Nat.zero_add,hc j bF,au,e,<-ai bF |>.symm.trans e |> bm];rfl
  ·rw[cn] at hj;cases e:zs[j]? with
   |none=>rw[e] at hj; cases hj
   |some z=>
     rw[e] at hj;simp at hj;subst hj;rw[au,e];exact .int _ _ _
 ·exact .dy _ _ _ (fun _=>undef) (fun j c hj=>by simp at hj) (fun j c hj=>by simp at hj)
theorem abU {c:eI} (h:∀g,c.gl g=[]) {w:World}:Am.dX (hU c) (fun _=>False) [] w:=by
 intro g;show bO _ [] (.dy (c.gl g)) _;rw[h g];exact .dy _ _ _ (fun _=>undef) (fun j c hj=>by simp at hj) (fun j c hj=>by simp at hj)
end Go.Bm

/- Calls that are known ahead: a table of runs, each proved by itself. -/
namespace Go.Bm
open Go.Am
structure Fact where
 f:Nat
 args:List AV
 H:Heap
 r:AV
 H':Heap
end Go.Bm
