/- The machine by value: open orders, shared boxes; the whole. -/
import Derived.Test.YtbnheahpdodmjabGreatDoorMd
import Derived.ProofKit
import Derived.WalkKit
import Derived.OpenShut
/- What a pure operation answers depends on the slots it reads. -/
set_option linter.unusedSimpArgs false
set_option linter.unusedVariables false
open Array renaming getD_eq_getD_getElem? → bm, replicate → tJ
open Bool renaming and_eq_true → ae, false_eq_true → bH, not_eq_true' → bN, or_eq_false_iff → fi, or_eq_true → eE
open Classical renaming choose → DY, choose_spec → j5
open List renaming append_assoc → dS, getD_eq_getElem?_getD → aG, getElem?_drop → bk, getElem?_eq_getElem → aj, getElem?_eq_none → dO, getElem?_map → cu, getElem?_of_mem → bG, getElem?_set → aU, getElem?_take → bT, head?_eq_getElem? → yX, isEmpty_iff → fN, length_append → bO, length_set → cF, length_take → bD, mem_append → aI, mem_append_left → Y1, mem_append_right → WD, mem_cons → aO, mem_of_getElem? → bp, mem_of_mem_drop → dv, mem_of_mem_take → du, mem_singleton → cX, range → eP, set_append_left → Y0
open Nat renaming le_max_left → AQ, le_max_right → yN, le_refl → aJ
open Option renaming isSome_iff_exists → bf, map_some → cG
open Option.some renaming inj → bj, injEq → af
open Prod.mk renaming injEq → aF
namespace Go.Bm
open Go.Am
section
variable {P:Program} {c:eS} {call:Nat->List AV->Heap->Option (AV × Heap)}
theorem cz {e1 e2:Env} {x:E} (h:∀i∈x.slot,fE i (get e1 i)=fE i (get e2 i)):bq c e1 x=bq c e2 x:=by
 cases x with
 |t i=>exact h i (by simp[E.slot])
 |k x=>rfl
 |g i=>rfl
theorem im {e1 e2:Env}:∀{xs:List E},(∀i∈qa xs,fE i (get e1 i)=fE i (get e2 i))->dK c e1 xs=dK c e2 xs
 |[],_=>rfl
 |x::r,h=>by
   simp only[qa,aI] at h;simp only[dK];rw[cz fun i hi=>h i (.inl hi),im fun i hi=>h i (.inr hi)]
theorem vq {e1 e2:Env}:∀{ps:List (Nat × Nat × E)} {zs:List AV},(∀i∈tQ ps,fE i (get e1 i)=fE i (get e2 i))->tc c e1 zs ps=tc c e2 zs ps
 |[],_,_=>by simp[tc]
 |(o,s,x)::r,zs,h=>by
   simp only[tQ,aI] at h;simp only[tc];rw[cz (c:=c) fun i hi=>h i (.inl hi)];split
   ·exact vq fun i hi=>h i (.inr hi)
   ·rfl
theorem ui {e1 e2:Env}:∀{ps:List (Nat × Nat × E)},(∀i∈tQ ps,fE i (get e1 i)=fE i (get e2 i))->iy c e1 ps=iy c e2 ps
 |[],_=>by simp[iy]
 |(o,s,x)::r,h=>by
   simp only[tQ,aI] at h;simp only[iy];rw[cz (c:=c) fun i hi=>h i (.inl hi),ui fun i hi=>h i (.inr hi)]
theorem DL {e1 e2:Env} {d m:Nat} {x:Option E} (h:∀i∈Oy x,fE i (get e1 i)=fE i (get e2 i)):DM c e1 d m x=DM c e2 d m x:=by
 cases x with
 |none=>rfl
 |some x=>simp only[DM]; rw[cz h]
theorem Pq {e1 e2:Env} {kd:Kd} (h:∀i∈kd.reads,fE i (get e1 i)=fE i (get e2 i)):Xm c e1 kd=Xm c e2 kd:=by
 cases kd<;>simp only[Kd.reads,aI] at h<;>simp only[Xm]
 case pick x y z=>rw[cz (c:=c) fun i hi=>h i (.inl hi),cz (c:=c) fun i hi=>h i (.inr (.inl hi)),cz (c:=c) fun i hi=>h i (.inr (.inr hi))]
 case build=>rw[vq (c:=c) h]
 case Io k x lo hi=>rw[cz (c:=c) fun i hi=>h i (.inl hi)]; simp only[DL (c:=c) fun i hi=>h i (.inr (.inl hi)),DL (c:=c) fun i hi=>h i (.inr (.inr hi))]
 case Of n x u=>rw[cz (c:=c) fun i hi=>h i (.inl hi)]
 case min=>rw[im (c:=c) h]
 case max=>rw[im (c:=c) h]
 case Sy=>rw[im (c:=c) fun i hi=>h i (.inl hi),im (c:=c) fun i hi=>h i (.inr hi)]
 all_goals first
  |rfl
  |rw[cz (c:=c) h]
  |rw[cz (c:=c) fun i hi=>h i (.inl hi),cz (c:=c) fun i hi=>h i (.inr hi)]
theorem Mv {e1 e2:Env} {kd:Kd} (h:∀i∈kd.reads,fE i (get e1 i)=fE i (get e2 i)):rB c e1 kd=rB c e2 kd:=by
 cases kd<;>simp only[rB]
 case call=>rw[im (c:=c) h]
 case jM=>
  simp only[Kd.reads,aI] at h;rw[cz (c:=c) fun i hi=>h i (.inl hi),im (c:=c) fun i hi=>h i (.inr hi)]
theorem jg {e1 e2:Env} {kd:Kd} (h:∀i∈kd.reads,fE i (get e1 i)=fE i (get e2 i)):getArgs c e1 kd=getArgs c e2 kd:=by
 unfold getArgs;rw[Mv h]
def Seen (ps:List Rt) (s t:St):Prop:=∀p∈ps,aB t p=aB s p/\∀ b l,p=.c b l->aH t.H b=aH s.H b
theorem Xj {s t:St} {ag:Option Nat} {x v:AV} {ps:List Rt} (h:Da s ag x=some (v,ps)) (hs:Seen ps s t):Da t ag x=some (v,ps):=by
 unfold Da at h ⊢;split at h
 ·exact h
 ·rename_i b off;split at h
  case h_2=>cases h
  rename_i cs hb;split at h
  case h_2=>cases h
  rename_i u hu;simp only[af,aF] at h;obtain⟨rfl,rfl⟩:=h;have:=(hs _ (cX.2 rfl)).2 b _ rfl;simp only[this,hb,hu]
 ·rename_i k p i off;split at h
  case h_2=>cases h
  rename_i k' xs ho;split at h
  case isFalse=>cases h
  rename_i hk;split at h
  case h_2=>cases h
  rename_i y hy;split at h
  case h_2=>cases h
  rename_i u hu;simp at h;obtain⟨rfl,rfl⟩:=h;have:=(hs p (by simp)).1;simp only[this,ho,hk,if_true,hy,hu]
 ·cases h
def uP (b j:Nat) (s t:St):Prop:=∀cs,aH s.H b=some cs->∃ds,aH t.H b=some ds/\(fj (.c b) 0 ds)[j]?=(fj (.c b) 0 cs)[j]?
def Ce (f:Fq) (s t:St):Prop:=(∀ps,f=.rd ps->Seen ps s t)/\∀ b j,f=.rc b j->uP b j s t
theorem xp (f:Nat->Rt):∀{cs ds:List AV} {j i:Nat},cs[i]?=ds[i]?->(fj f j cs)[i]?=(fj f j ds)[i]?
 |[],[],_,_,_=>rfl
 |[],d::ds,j,0,h=>by simp at h
 |c::cs,[],j,0,h=>by simp at h
 |[],d::ds,j,i+1,h=>by
   have:=xp f (cs:=[]) (ds:=ds) (j:=j+1) (i:=i) (by simpa using h);cases d<;>simpa[fj] using this
 |c::cs,[],j,i+1,h=>by
   have:=xp f (cs:=cs) (ds:=[]) (j:=j+1) (i:=i) (by simpa using h);cases c<;>simpa[fj] using this
 |c::cs,d::ds,j,0,h=>by
   simp at h;subst h;cases c<;>simp[fj]
 |c::cs,d::ds,j,i+1,h=>by
   have:=xp f (cs:=cs) (ds:=ds) (j:=j+1) (i:=i) (by simpa using h);cases c<;>cases d<;>simpa[fj] using this
theorem ahK {ag:Option Nat} {cs ds:List AV} {k:Nat} {p:Rt} {o l:Nat} (h:QY ag cs=some (.dX k p o l)) (e:ds[0]?=cs[0]?):QY ag ds=some (.dX k p o l):=by
 unfold QY FO at h ⊢;cases ag with
 |some n=>simp only at h ⊢; (repeat' split at h)<;>simp_all
 |none=>
   simp only at h ⊢;have:ds.head?=cs.head?:=by rw[yX,yX]; exact e
   rw[this]; exact h
theorem acX {s t:St} {ag:Option Nat} {x v:AV} {ps:List Rt} (h:Da s ag x=some (v,ps)) (hs:Ce (Al x v ps) s t):Da t ag x=some (v,ps):=by
 by_cases hx:∃b off k o l,x=.ptr b off/\v=.dX k (.c b off) o l
 ·obtain⟨b,off,k,o,l,rfl,rfl⟩:=hx;have Vk:=hs.2 b off (by simp[Al]);unfold Da at h ⊢;simp only at h ⊢;split at h
  case h_2=>cases h
  rename_i cs hb;split at h
  case h_2=>cases h
  rename_i u hu;simp only[af,aF] at h;obtain⟨rfl,h2⟩:=h;obtain⟨ds,d1,d2⟩:=Vk cs hb
  have:QY ag ((fj (.c b) 0 ds).drop off)=some (.dX k (.c b off) o l):=ahK hu (by
   rw[bk,bk];simpa using d2)
  simp only[d1,this,h2]
 ·refine Xj h (hs.1 ps ?_);unfold Al;split
  ·rename_i b off k d j o l;split
   ·rename_i hc;obtain⟨rfl,rfl⟩:=hc;exact absurd ⟨_,_,_,_,_,rfl,rfl⟩ hx
   ·rfl
  ·rfl
end
end Go.Bm

/- Operations that change nothing that is there: what they answer depends on the slots they read and on the places they name. -/
namespace Go.Bm
open Go.Am
section
variable {P:Program} {c:eS} {call:Nat->List AV->Heap->Option (AV × Heap)}
theorem Seen.left {ps qs:List Rt} {s t:St} (h:Seen (ps++qs) s t):Seen ps s t:=fun p hp=>h p (by simp[hp])
theorem Seen.right {ps qs:List Rt} {s t:St} (h:Seen (ps++qs) s t):Seen qs s t:=fun p hp=>h p (by simp[hp])
mutual
theorem Mx {b:Bool} {s t:St}:∀x,Seen (aV x) s t->nf b t x=nf b s x
 |.dX k p off len,h=>by simp only[nf]; rw[(h p (by simp[aV])).1]
 |.agg cs,h=>by simp only[nf]; rw[uz cs (by simpa[aV] using h)]
 |.dR cs,h=>by simp only[nf]; rw[uz cs (by simpa[aV] using h)]
 |.func f a b',h=>by
   have h':Seen (dz a++dz b') s t:=by simpa[aV] using h
   simp only[nf]; rw[uz a h'.left,uz b' h'.right]
 |.own _ _,_=>rfl
 |.ptr _ _,_=>rfl
 |.fG _ _ _ _,_=>rfl
 |.sl _ _ _ _,_=>rfl
 |.any,_=>rfl
 |.undef,_=>rfl
 |.bool _,_=>rfl
 |.int _ _,_=>rfl
 |.fY,_=>rfl
 |.gh,_=>rfl
 |.dC,_=>rfl
 |.str _,_=>rfl
 |.dG _,_=>rfl
 |.list _ _,_=>rfl
theorem uz {b:Bool} {s t:St}:∀xs,Seen (dz xs) s t->Gz b t xs=Gz b s xs
 |[],_=>rfl
 |x::r,h=>by
   have h':Seen (aV x++dz r) s t:=by simpa[dz] using h
   simp only[Gz]; rw[Mx x h'.left,uz r h'.right]
end
theorem Yy {s t:St} {k:Nat} {x:AV} (h:Seen (aV x) s t):cont t k x=cont s k x:=by
 cases x<;>try rfl
 case dX k' p off len=>simp only[cont]; rw[(h p (by simp[aV])).1]
 case own k' xs=>cases xs<;>rfl
theorem Yk {s t:St} {k b off len:Nat} (h:Seen [.c b 1] s t):VC t k b off len=VC s k b off len:=by
 unfold VC;rw[(h _ (cX.2 rfl)).2 b 1 rfl]
theorem MA {s t:St}:∀xs,Seen (dz xs++Jm xs) s t->xG t xs=xG s xs
 |[],_=>rfl
 |x::r,h=>by
   have hb:Seen (aV x++dz r) s t:=by simpa[dz] using h.left
   have iZ:Seen (Jm r) s t:=fun p hp=>h p (aI.2 (.inr (by cases x<;>simp[Jm,hp])));have ih:=MA r fun p hp=>(aI.1 hp).elim (fun q=>hb.right p q) (iZ p);have hx:=Mx (b:=false) x hb.left;cases x<;>try (simp only[xG]; rw[hx,ih]; done)
   case sl k b off len=>
    simp only[xG];rw[ih,Yk fun p hp=>h p (aI.2 (.inr (by simp[Jm,cX.1 hp])))]
   case own k xs=>
    cases xs with
    |nil=>simp only[xG]; rw[ih]
    |cons y ys=>simp only[xG]; rw[hx,ih]
def calm:Fq->Bool
 |.no|.rc _ _|.rd _|.al _=>true
 |_=>false
def DO (s s1:St) (kd:Kd) (f:Fq) (v:AV) (g:St->Option (AV × St × Fq)):Prop:=
 ∃ T,s1=⟨s.env,s.H++T⟩/\(T=[]\/∃ z,T=[z]/\f=.al s.H.length)/\∀ t:St,(∀i∈kd.reads,fE i (get t.env i)=fE i (get s.env i))->Ce f s t->(∀n,f=.al n->t.H.length=n)->g t=some (v,⟨t.env,t.H++T⟩,f)
theorem Ak (x v:AV) (ps:List Rt):Al x v ps=.rd ps\/∃ b j,Al x v ps=.rc b j:=by
 unfold Al;split
 ·split
  ·exact .inr ⟨_,_,rfl⟩
  ·exact .inl rfl
 ·exact .inl rfl
theorem DO.still {s:St} {kd:Kd} {f:Fq} {v:AV} {g:St->Option (AV × St × Fq)} (h:∀t:St,(∀i∈kd.reads,fE i (get t.env i)=fE i (get s.env i))->Ce f s t->g t=some (v,t,f)):DO s s kd f v g:=
 ⟨[],by simp,.inl rfl,fun t h1 h2 _=>by rw[h t h1 h2]; simp⟩
end
end Go.Bm

/- Every calm operation depends on what it names alone. -/
namespace Go.Bm
open Go.Am
section
variable {P:Program} {c:eS} {call:Nat->List AV->Heap->Option (AV × Heap)}
theorem adP {s s':St} {b off k:Nat} {v:AV} {f:Fq} (h:BZ s b off k v=some (s',f)):calm f=false:=by
 unfold BZ at h
 repeat' split at h
 all_goals first
  |(cases h; done)
  |(simp at h; obtain⟨_,rfl⟩:=h; rfl)
theorem WQ {s s':St} {k:Nat} {a v:AV} {f:Fq} (h:Wo s k a v=some (s',f)):calm f=false:=by
 unfold Wo at h;split at h
 ·exact adP h
 ·repeat' split at h
  all_goals first
   |(cases h; done)
   |(simp at h; obtain⟨_,rfl⟩:=h; rfl)
 ·cases h
theorem Br (s:St) (l:List Rt):pP s l=.all\/∃ sl bs,pP s l=.wr sl bs:=by
 unfold pP;split
 ·split
  ·exact .inr ⟨_,_,rfl⟩
  ·exact .inl rfl
 ·exact .inl rfl
theorem Ic (s:St) (l:List Rt):calm (pP s l)=false:=by rcases Br s l with e|⟨_,_,e⟩<;>rw[e]<;>rfl
theorem Gy (s:St) (l ps:List Rt):(pP s l=.bo ps)=False:=by rcases Br s l with e|⟨_,_,e⟩<;>rw[e]<;>simp
theorem Bs (s:St) (l:List Rt) (n:Nat):(pP s l=.al n)=False:=by rcases Br s l with e|⟨_,_,e⟩<;>rw[e]<;>simp
theorem Gx (s:St) (l:List Rt) (n:Nat):(pP s l=.lw n)=False:=by rcases Br s l with e|⟨_,_,e⟩<;>rw[e]<;>simp
theorem VO {s s1:St} {kd:Kd} {v:AV} {f:Fq} (h:eT c call kd s=some (v,s1,f)) (hf:calm f=true):DO s s1 kd f v (eT c call kd):=by
 unfold eT at h;split at h
 ·cases h
 rename_i f0 args ha;split at h
 ·cases h
 rename_i md q hq;split at h
 ·rename_i hm;split at h
  ·cases h
  rename_i vu hz;split at h
  case h_2=>cases h
  rename_i r H' hc;split at h
  case isFalse=>cases h
  rename_i hr;simp at h;obtain⟨rfl,rfl,rfl⟩:=h;refine .still fun t h1 h2=>?_
  have hs:Seen (dz args++Jm args) s t:=by
   by_cases he:(dz args++Jm args).isEmpty=true
   ·rw[fN.1 he]; intro p hp; simp at hp
   ·exact h2.1 _ (by simp[he]<;>simpa using he)
  unfold eT;rw[jg h1,ha];simp only[hq,hm,if_true,MA args hs,hz,hc,hr];simp
 ·rename_i hm;split at h
  ·cases h
  rename_i f1 rE N6;split at h
  case isFalse=>cases h
  rename_i hff;split at h
  ·repeat' split at h
   all_goals first
    |(cases h; done)
    |(simp at h; obtain⟨_,_,rfl⟩:=h; exfalso; simp[calm] at hf; done)
    |(simp at h; obtain⟨_,_,rfl⟩:=h; exfalso; revert hf; split<;>simp[calm])
  ·rename_i jI;split at h
   case isFalse=>cases h
   rename_i hp;split at h
   case h_2=>cases h
   rename_i r H' hc;split at h
   case isFalse=>cases h
   rename_i hr;simp at h;obtain⟨rfl,rfl,rfl⟩:=h
   have he:dz args=[]:=by
    cases hb:dz args with
    |nil=>rfl
    |cons x y=>rw[hb] at hf; simp[Ic] at hf
   rw[he] at N6 ⊢;simp only[eO] at N6 ⊢;refine .still fun t h1 h2=>?_;unfold eT;rw[jg h1,ha];simp only[hq,hm,he,eO,bH,if_false];rw[jg h1,N6];simp only[hff,if_true,jI,hp,hc,hr,bH,if_false];simp
theorem Bn {s:St} {kd:Kd} (h:sO c s kd=none) (t:St):sO c t kd=none:=by
 unfold sO at h ⊢;split at h
 ·split at h
  ·rename_i f x es hi;split at h
   ·rename_i he; simp only[hi,he]
   ·cases h
  ·cases h
 ·rfl
theorem Ge {s:St} {kd:Kd} (h:p7 c call s kd=none) (t:St):p7 c call t kd=none:=by
 unfold p7 at h ⊢;split at h
 ·rename_i f x es;split at h
  ·cases h
  ·rename_i hl;exact if_neg hl
 ·rfl
theorem ai7 {s s1:St} {g:Nat->List AV->List AV->Option (List AV)} {x:AV} {es:List AV} {v:AV} {f:Fq} (h:Yq s g x es=some (v,s1,f)):∃sl bs,f=.wr sl bs\/f=.all:=by unfold Yq at h;cases h
theorem E9 {s s1:St} {kd:Kd} {v:AV} {f:Fq} (h:sO c s kd=some (some (v,s1,f))):∃sl bs,f=.wr sl bs\/f=.all:=by
 unfold sO at h;split at h
 case h_2=>cases h
 split at h
 case h_1=>
  split at h
  ·cases h
  ·simp only[af] at h;exact ai7 h
 simp only[af] at h
 (repeat' split at h)<;>simp at h
 all_goals first
  |exact⟨_,_,.inl h.2.2.symm⟩
  |exact⟨[],none,.inr h.2.2.symm⟩
theorem F9 {an6:Nat->List AV->Heap->Option (AV × Heap)} {s:St} {kd:Kd} (h:vE c call s kd=none) (t:St):vE c an6 t kd=none:=by
 unfold vE at h ⊢;split at h
 ·split at h
  ·cases h
  ·rename_i hm;simp only[hm]
 ·rfl
theorem Be {s s1:St} {kd:Kd} {v:AV} {f:Fq} (h:vE c call s kd=some (some (v,s1,f))):f=.all/\∃ k ys,v=.own k ys:=by
 unfold vE at h;split at h
 case h_2=>cases h
 split at h
 case h_2=>cases h
 simp only[af] at h;unfold Uk at h
 (repeat' split at h)<;>first
  |(cases h; done)
  |(simp only[af,aF] at h; exact⟨h.2.2.symm,_,_,h.1.symm⟩)
theorem R5 {s s1:St} {kd:Kd} {v:AV} {f:Fq} (h:gP c call kd s=some (v,s1,f)) (hf:calm f=true):DO s s1 kd f v (gP c call kd):=by
 unfold gP at h;cases hm:vE c call s kd with
 |some r=>
   rw[hm] at h;simp only at h;subst h;obtain⟨rfl,_⟩:=Be hm;simp[calm] at hf
 |none=>
   rw[hm] at h;rcases jX h with h|h
   ·obtain⟨T,h1,h2,h3⟩:=VO h hf;refine⟨T,h1,h2,fun t a b d=>?_⟩;unfold gP;rw[F9 hm t];exact uA (h3 t a b d)
   ·obtain⟨rfl,_⟩:=A6 h;simp[calm] at hf
theorem Fs {s s1:St} {kd:Kd} {v:AV} {f:Fq} (h:dN c call kd s=some (v,s1,f)) (hf:calm f=true):DO s s1 kd f v (dN c call kd):=by
 unfold dN at h;cases hi:sO c s kd with
 |some r=>
   rw[hi] at h;simp only at h;subst h;obtain⟨sl,bs,rfl|rfl⟩:=E9 hi<;>simp[calm] at hf
 |none=>
   rw[hi] at h;cases hl:p7 c call s kd with
   |some r=>
     rw[hl] at h;simp only at h;subst h;obtain⟨b,rfl⟩:=IY hl;simp[calm] at hf
   |none=>
     rw[hl] at h;obtain⟨T,h1,h2,h3⟩:=R5 h hf;refine⟨T,h1,h2,fun t a b d=>?_⟩;unfold dN;rw[Bn hi t,Ge hl t];exact h3 t a b d
end
end Go.Bm

/- Every operation that is calm depends on what it names alone. -/
namespace Go.Bm
open Go.Am
section
variable {P:Program} {c:eS} {call:Nat->List AV->Heap->Option (AV × Heap)}
theorem afk {s s1:St} {kd:Kd} {v:AV} {f:Fq} (h:fD c call s kd=some (v,s1,f)) (hf:calm f=true):DO s s1 kd f v (fun t=>fD c call t kd):=by
 have pure:∀{kd:Kd} {v:AV} {s1:St} {f:Fq},(match Xm c s.env kd with
   |some v=>some (v,s,Fq.no)
   |none=>none)=some (v,s1,f)->DO s s1 kd f v (fun t=>match Xm c t.env kd with
   |some v=>some (v,t,Fq.no)
   |none=>none):=by
  intro kd v s1 f h;split at h
  case h_2=>cases h
  rename_i u hu;simp at h;obtain⟨rfl,rfl,rfl⟩:=h;refine .still fun t h1 _=>?_;simp only[Pq (c:=c) h1,hu]
 cases kd
 case call f0 xs=>simp only[fD] at h ⊢; exact Fs h hf
 case jM x xs=>simp only[fD] at h ⊢; exact Fs h hf
 case ld ag x=>
  simp only[fD] at h;split at h
  case h_2=>cases h
  rename_i u ps hp;split at h
  case isFalse=>cases h
  rename_i hl;simp at h;obtain⟨rfl,rfl,rfl⟩:=h;refine .still fun t h1 h2=>?_;simp only[fD,cz (c:=c) h1,acX hp h2,hl,if_true]
 case copy k x y=>
  exfalso;simp only[fD] at h
  (repeat' split at h)<;>first
   |(cases h; done)
   |(simp only[af,aF] at h; obtain⟨_,_,rfl⟩:=h; first
     |(simp[calm] at hf; done)
     |(rcases AA _ _ with e|⟨_,_,_,_,e⟩<;>rw[e] at hf<;>simp[calm] at hf))
 case Of n x hi=>
  simp only[fD] at h;split at h
  ·rename_i b off hx;split at h
   case h_2=>cases h
   rename_i m cs hm hb;split at h
   case isFalse=>cases h
   rename_i hl;simp at h;obtain⟨rfl,rfl,rfl⟩:=h;refine .still fun t h1 h2=>?_;simp only[Kd.reads,aI] at h1;have e:=((h2.1 _ rfl) _ (cX.2 rfl)).2 b 1 rfl;have X1:DM c t.env n n hi=some m:=by rw[DL (c:=c) fun i hi=>h1 i (.inr hi)]; exact hm
   simp only[fD,cz (c:=c) fun i hi=>h1 i (.inl hi),hx,X1,e,hb,hl,if_true]
  ·rename_i iF;split at h
   case h_2=>cases h
   rename_i u hu;simp at h;obtain⟨rfl,rfl,rfl⟩:=h;refine .still fun t h1 _=>?_;have e:=Pq (c:=c) h1;simp only[Kd.reads,aI] at h1;have ex:bq c t.env x=bq c s.env x:=cz (c:=c) fun i hi=>h1 i (.inl hi);simp only[fD,ex,e,hu]
 case new zs=>
  simp only[fD] at h;simp at h;obtain⟨rfl,rfl,rfl⟩:=h;exact⟨_,rfl,.inr ⟨_,rfl,rfl⟩,fun t _ _ h3=>by simp only[fD]; rw[h3 _ rfl]⟩
 case box x=>
  simp only[fD] at h;split at h
  case isFalse=>cases h
  rename_i hl;simp at h;obtain⟨rfl,rfl,rfl⟩:=h;refine⟨_,rfl,.inr ⟨_,rfl,rfl⟩,fun t h1 _ h3=>?_⟩;simp only[fD,cz (c:=c) h1,hl,if_true];rw[h3 _ rfl]
 case dw k n zs ps=>
  simp only[fD] at h;split at h
  case h_2=>cases h
  rename_i cs hc;split at h
  case isFalse=>cases h
  rename_i hz;simp at h;obtain⟨rfl,rfl,rfl⟩:=h
  have he:iy c s.env ps=[]:=by
   cases hb:iy c s.env ps with
   |nil=>rfl
   |cons x y=>rw[hb] at hf; simp[Ic] at hf
  rw[he] at hc ⊢;simp only[eO] at hc ⊢;refine .still fun t h1 _=>?_;simp only[fD,ui (c:=c) h1,he,eO,vq (c:=c) h1,hc,hz,if_true];simp
 case st k a v=>
  exfalso;simp only[fD] at h;split at h
  ·split at h
   case h_2=>cases h
   rename_i hh;have h4:=WQ hh;simp only[af,aF] at h;obtain⟨_,_,h5⟩:=h;rw[<-h5] at hf;split at hf
   ·rw[hf] at h4; cases h4
   ·simp[calm] at hf
  ·split at h
   case h_2=>cases h
   rename_i hh;have h4:=WQ hh;simp only[af,aF] at h;obtain⟨_,_,h5⟩:=h;rw[<-h5] at hf;rw[hf] at h4;cases h4
 case app k x y=>
  simp only[fD] at h;split at h
  case h_2=>cases h
  rename_i ys hy;split at h
  case isFalse=>cases h
  rename_i hl;split at h
  ·rename_i k' hx;split at h
   case isFalse=>cases h
   rename_i hle;simp at h;obtain⟨rfl,rfl,rfl⟩:=h;refine .still fun t h1 h2=>?_;simp only[Kd.reads,aI] at h1;simp only[fD];rw[cz (c:=c) fun i hi=>h1 i (.inl hi),cz (c:=c) fun i hi=>h1 i (.inr hi),Yy (h2.1 _ rfl),hy];simp only[hl,if_true,hx,hle]
  ·exfalso
   repeat' split at h
   all_goals first
    |(cases h; done)
    |(simp at h; obtain⟨_,_,rfl⟩:=h; simp[calm] at hf)
  ·cases h
 case Rr k zs l cp=>
  simp only[fD] at h;split at h
  case h_2=>cases h
  rename_i k1 n1 k2 n2 e1 e2;split at h
  case isFalse=>cases h
  rename_i hb;split at h
  ·rename_i z hz;simp at h;obtain⟨rfl,rfl,rfl⟩:=h;refine⟨_,rfl,.inr ⟨_,rfl,rfl⟩,fun t h1 _ h3=>?_⟩;simp only[Kd.reads,aI] at h1;simp only[fD];rw[cz (c:=c) fun i hi=>h1 i (.inl hi),cz (c:=c) fun i hi=>h1 i (.inr hi),e1,e2];simp only[hb,and_self,if_true,hz];rw[h3 _ rfl]
  ·rename_i hz;simp at h;obtain⟨rfl,rfl,rfl⟩:=h;refine .still fun t h1 h2=>?_;simp only[Kd.reads,aI] at h1;simp only[fD];rw[cz (c:=c) fun i hi=>h1 i (.inl hi),cz (c:=c) fun i hi=>h1 i (.inr hi),e1,e2];simp only[hb,and_self,if_true,hz]
 case Rg k zs x=>
  simp only[fD] at h;split at h
  case h_3=>cases h
  all_goals
   rename_i e1;simp at h;obtain⟨rfl,rfl,rfl⟩:=h;refine .still fun t h1 h2=>?_;simp only[fD,cz (c:=c) h1,e1]
 case Ga=>
  simp only[fD] at h;simp at h;obtain⟨rfl,rfl,rfl⟩:=h;exact⟨_,rfl,.inr ⟨_,rfl,rfl⟩,fun t _ _ h3=>by simp only[fD]; rw[h3 _ rfl]⟩
 case BP K ok z x k=>
  simp only[fD] at h;split at h
  case h_2=>cases h
  rename_i b e1;split at h
  case h_2=>cases h
  rename_i es e2;split at h
  case isFalse=>cases h
  rename_i hp;split at h
  case h_2=>cases h
  rename_i r e3;split at h
  case isFalse=>cases h
  rename_i hz;simp only[af,aF] at h;obtain⟨rfl,rfl,rfl⟩:=h;refine .still fun t h1 h2=>?_;simp only[Kd.reads,aI] at h1;have e:=((h2.1 _ rfl) _ (cX.2 rfl)).2 b 1 rfl;have ek:bq c t.env k=bq c s.env k:=cz (c:=c) fun i hi=>h1 i (.inr hi);simp only[fD,cz (c:=c) fun i hi=>h1 i (.inl hi),ek,e1,e,e2,hp,and_self,if_true,e3,hz]
 case Df K x k y=>
  exfalso;simp only[fD] at h
  repeat' split at h
  all_goals first
   |(cases h; done)
   |(simp only[af,aF] at h; obtain⟨_,_,rfl⟩:=h; simp[calm] at hf)
 all_goals
  simp only[fD] at h ⊢;exact pure h
end
end Go.Bm

/- A state without shadowed entries: who mentions a place, by what can be read. -/
namespace Go.Bm
open Go.Am
section
def Rl:List Nat->Env->Env
 |_,[]=>[]
 |sn,(i,v)::r=>if mem i sn then Rl sn r else (i,v)::Rl (i::sn) r
theorem RT:∀(sn:List Nat) (e:Env) (i:Nat),get (Rl sn e) i=if mem i sn=true then .any else get e i
 |sn,[],i=>by simp[Rl,Am.get]
 |sn,(j,v)::r,i=>by
   unfold Rl;by_cases hj:mem j sn=true
   ·rw[if_pos hj,RT sn r i];by_cases hi:mem i sn=true
    ·simp[hi]
    ·simp only[hi,bH,if_false,Am.get];have:j≠i:=fun e=>hi (e▸hj);have h2:i≠j:=fun e=>this e.symm;simp[hi,h2]
   ·rw[if_neg hj];simp only[Am.get];rw[RT (j::sn) r i];by_cases DU:j=i
    ·subst DU;simp[hj]
    ·have h2:i≠j:=fun e=>DU e.symm
     have:mem i (j::sn)=mem i sn:=by
      conv=>lhs; unfold mem
      rw[if_neg h2]
     simp only[this,h2,if_false]
theorem Wb {f:Rt->Bool}:∀{e:Env} {i:Nat},AH f (aV (get e i))=true->Ng f e=true
 |[],i,h=>by simp[Am.get,aV,AH] at h
 |(j,v)::r,i,h=>by
   simp only[Am.get] at h;simp only[Ng,eE];split at h
   ·exact .inl h
   ·exact .inr (Wb h)
theorem Nf {f:Rt->Bool}:∀{sn:List Nat} {e:Env},Ng f (Rl sn e)=true->∃i,mem i sn=false/\AH f (aV (Am.get e i))=true
 |sn,[],h=>by simp[Rl,Ng] at h
 |sn,(j,v)::r,h=>by
   unfold Rl at h;by_cases hj:mem j sn=true
   ·rw[if_pos hj] at h;obtain⟨i,h1,h2⟩:=Nf h;have qF:i≠j:=fun e=>by rw[e,hj] at h1; cases h1
    exact⟨i,h1,by simp only[Am.get]; rw[if_neg qF]; exact h2⟩
   ·rw[if_neg hj] at h;simp only[Ng,eE] at h;rcases h with h|h
    ·exact⟨j,by simpa using hj,by simp only[Am.get,if_true]; exact h⟩
    ·obtain⟨i,h1,h2⟩:=Nf h
     have qF:i≠j:=fun e=>by
      rw[e] at h1;unfold mem at h1;simp at h1
     refine⟨i,?_,by simp only[Am.get]; rw[if_neg qF]; exact h2⟩;unfold mem at h1;rw[if_neg qF] at h1;exact h1
def Xt (s:St):St:=⟨Rl [] s.env,s.H⟩
theorem tA (s:St):eC s (Xt s):=⟨fun i=>by simp only[Xt]; rw[RT]; simp[mem],rfl⟩
end
end Go.Bm

/- A step is an operation's value, put to its slot; what a calm operation and one that writes a few places are worth. -/
namespace Go.Bm
open Go.Am
section
variable {P:Program} {c:eS} {call:Nat->List AV->Heap->Option (AV × Heap)}
def Ig (c:eS) (call:Nat->List AV->Heap->Option (AV × Heap)) (s:St) (q:O):Option (AV × St × Fq):=
 match q.guard with
 |none=>fD c call s q.kd
 |some (g,want)=>match get s.env g with
   |.bool b=>if b=want then fD c call s q.kd else some (.undef,s,.no)
   |.undef=>some (.undef,s,.no)
   |_=>none
theorem zp (s:St) (q:O):u4 c call s q=match Ig c call s q with
  |some (v,s',fl)=>Fk s.env q.dst v s' fl
  |none=>none:=by
 unfold u4 Ig;cases hg:q.guard with
 |none=>rfl
 |some p=>
   obtain⟨g,want⟩:=p;simp only;generalize get s.env g=u;cases u<;>try rfl
   rename_i b;simp only;by_cases hb:b=want
   ·simp only[hb,if_true]; rfl
   ·simp only[hb,if_false]
def ku (s:St) (d:Option Nat) (v:AV):St:=match d with
 |none=>s
 |some d=>⟨put s.env d v,s.H⟩
theorem iK (s:St) (d:Option Nat) (v:AV):(ku s d v).H=s.H:=by cases d<;>rfl
theorem eW (s:St) (d:Option Nat) (v:AV) (i:Nat):get (ku s d v).env i=if d=some i then v else get s.env i:=by
 cases d with
 |none=>simp[ku]
 |some d=>
   simp only[ku,bQ];by_cases h:i=d
   ·subst h; simp
   ·have:d≠i:=fun e=>h e.symm;simp[h,this]
theorem acU {s t:St} (h:eC s t) (d:Option Nat) (v:AV):eC (ku s d v) (ku t d v):=
 ⟨fun i=>by rw[eW,eW,h.1 i],by rw[iK,iK]; exact h.2⟩
def Ev (c:eS) (call:Nat->List AV->Heap->Option (AV × Heap)) (s:St) (q:O) (v:AV) (s1:St) (f:Fq):Prop:=
 B7 q.kd=true/\∃ s0 t1,eC s s0/\Ig c call s0 q=some (v,t1,f)/\eC t1 s1
theorem Ev.same {s t s1 t1:St} {q:O} {v:AV} {f:Fq} (h:Ev c call s q v s1 f) (e:eC s t) (e1:eC s1 t1):Ev c call t q v t1 f:=by
 obtain⟨hk,s0,u1,a,b,d⟩:=h;exact⟨hk,s0,u1,e.symm.trans a,b,d.trans e1⟩
structure YY (c:eS) (call:Nat->List AV->Heap->Option (AV × Heap)) (s:St) (q:O) (v:AV) (s1:St) (f:Fq) (X:Heap):Prop where
 st:eC s1 ⟨s.env,s.H++X⟩
 nw:(X=[]/\∀ n,f≠.al n)\/∃ z,X=[z]/\f=.al s.H.length
 go:∀t:St,(∀i∈q.reads,fE i (get t.env i)=fE i (get s.env i))->Ce f s t->(∀n,f=.al n->t.H.length=n)->Ev c call t q v ⟨t.env,t.H++X⟩ f
 val:∀V:Rt->Prop,(∀i∈q.reads,(∀p∈aV (get s.env i),¬V p)/\¬ V (.s i)/\∀ j,¬V (.sc i j)) ->
  (∀ps,f=.rd ps->∀b,Rt.c b 0∈ps->∀cs,aH s.H b=some cs->(∀p∈dz cs,¬V p)/\(bS cs=true->∀j,¬V (.c b j))) ->
  (∀b j,f=.rc b j->∀cs c,aH s.H b=some cs->cs[j]?=some c->(∀p∈aV c,¬V p)/\(∀k xs,c=.own k xs->¬V (.c b j)))->∀p∈aV v,¬V p
structure LwEv (c:eS) (call:Nat->List AV->Heap->Option (AV × Heap)) (s:St) (q:O) (v:AV) (s1:St) (b:Nat) (cs cs':List AV):Prop where
 bl:aH s.H b=some cs
 st:eC s1 ⟨s.env,s.H.set b (some cs')⟩
 go:∀t:St,(∀i∈q.reads,get t.env i=get s.env i)->aH t.H b=some cs->Ev c call t q v ⟨t.env,t.H.set b (some cs')⟩ (.lw b)
structure WrEv (c:eS) (call:Nat->List AV->Heap->Option (AV × Heap)) (s:St) (q:O) (v:AV) (s1:St) (sl:List Nat) (bs:Option (List Nat)) (V:Rt->Prop):Prop where
 env:∀i,i∉sl->i+oD∉sl->get s1.env i=get s.env i
 hd:∀i,i∉sl->fE i (get s1.env i)=fE i (get s.env i)
 keep:∀i,bY (get s.env i)=false->aV (get s.env i)=[]->get s1.env i=get s.env i
 heap:∀l,bs=some l->∀b,qe b l=false->aH s1.H b=aH s.H b
 cell:∀l,bs=some l->∀b j,b∉l->yJ b j∉l->uP b j s s1/\uP b j s1 s
 v1:∀i,i∉sl->(∀p∈aV (get s.env i),¬V p)/\¬ V (.s i)/\∀ j,¬V (.sc i j)
 v2:∀l,bs=some l->∀b,qe b l=false->b+oD∉l->∀cs,aH s.H b=some cs->(∀p∈dz cs,¬V p)/\(bS cs=true->∀j,¬V (.c b j))
 v3:∀l,bs=some l->∀b j,b∉l->b+oD∉l->yJ b j∉l->∀cs c,aH s.H b=some cs->cs[j]?=some c->(∀p∈aV c,¬V p)/\(∀k xs,c=.own k xs->¬V (.c b j))
 go:∀d u,d∉q.reads->d∉sl->d+oD∉sl->(∀p∈aV u,¬V p)->∃t1 sl',Ev c call ⟨put s.env d u,s.H⟩ q v t1 (.wr sl' bs)/\(∀i∈sl',i∈sl)/\eC t1 ⟨put s1.env d u,s1.H⟩
end
end Go.Bm

/- Two steps whose order is open commute, given what single operations are worth. -/
namespace Go.Bm
open Go.Am
section
variable {P:Program} {c:eS} {call:Nat->List AV->Heap->Option (AV × Heap)}
def tt (c:eS) (call:Nat->List AV->Heap->Option (AV × Heap)):Prop:=∀s q v s1 f,Ev c call s q v s1 f->calm f=true->∃X,YY c call s q v s1 f X
def FB (c:eS) (call:Nat->List AV->Heap->Option (AV × Heap)):Prop:=∀s q v s1 sl bs,Ev c call s q v s1 (.wr sl bs)->∃V,WrEv c call s q v s1 sl bs V
def FD (c:eS) (call:Nat->List AV->Heap->Option (AV × Heap)):Prop:=∀s q v s1 b,Ev c call s q v s1 (.lw b)->∃cs cs',LwEv c call s q v s1 b cs cs'
theorem amP {s s1:St} {q:O} {v:AV} {f:Fq} (h:Ig c call s q=some (v,s1,f)):∀ps,f≠.bo ps:=by
 have fu:∀{kd:Kd} {v:AV} {s1:St} {f:Fq},fD c call s kd=some (v,s1,f)->∀ps,f≠.bo ps:=by
  intro kd v s1 f h ps e;subst e
  have st:∀{s s':St} {k:Nat} {a v:AV},Wo s k a v≠some (s',.bo ps):=by
   intro s s' k a v h;unfold Wo BZ at h
   repeat' split at h
   all_goals first
    |(cases h; done)
    |(simp at h; done)
  have ic:∀{kd:Kd},sO c s kd≠some (some (v,s1,.bo ps)):=fun h=>by
   obtain⟨sl,bs,e|e⟩:=E9 h<;>cases e
  have oc:∀{kd:Kd},dN c call kd s≠some (v,s1,.bo ps):=by
   intro kd h;unfold dN at h;split at h
   ·rename_i r hi; subst h; exact ic hi
   split at h
   ·rename_i r hi; subst h; obtain⟨b,e⟩:=IY hi; cases e
   unfold gP at h;split at h
   ·rename_i r hi; subst h; obtain⟨e,_⟩:=Be hi; cases e
   ·replace h:=(jX h).resolve_right fun h=>by obtain⟨e,_⟩:=A6 h; cases e
    unfold eT at h
    (repeat' split at h)
    all_goals first
     |(cases h; done)
     |(simp[Gy] at h; done)
     |(simp at h; obtain⟨_,_,h5⟩:=h; revert h5; split<;>simp[Gy])
  cases kd<;>simp only[fD] at h
  case call=>exact oc h
  case jM=>exact oc h
  case st k a v=>
   split at h
   ·split at h
    case h_2=>cases h
    rename_i hh;simp only[af,aF] at h;obtain⟨_,_,h5⟩:=h;split at h5
    ·rw[h5] at hh; exact st hh
    ·cases h5
   ·split at h
    case h_2=>cases h
    rename_i hh;simp only[af,aF] at h;obtain⟨_,_,h5⟩:=h;rw[h5] at hh;exact st hh
  all_goals
   (repeat' split at h)
   all_goals first
    |(cases h; done)
    |(simp at h; done)
    |(simp[Gy] at h; done)
    |(simp at h; obtain⟨_,_,h5⟩:=h; rcases Ak _ _ _ with e|⟨b,j,e⟩<;>rw[e] at h5<;>cases h5; done)
    |(simp at h; obtain⟨_,_,h5⟩:=h; rcases AA _ _ with e|⟨_,_,_,_,e⟩<;>rw[e] at h5<;>cases h5; done)
    |(simp at h; obtain⟨_,_,h5⟩:=h; revert h5; split<;>simp)
 unfold Ig at h;split at h
 ·exact fu h
 ·split at h
  ·split at h
   ·exact fu h
   ·simp at h; obtain⟨_,_,rfl⟩:=h; intro ps; simp
  ·simp at h; obtain⟨_,_,rfl⟩:=h; intro ps; simp
  ·cases h
theorem Ev.fl {s s1:St} {q:O} {v:AV} {f:Fq} (h:Ev c call s q v s1 f):∀ps,f≠.bo ps:=let ⟨_,_,_,_,b,_⟩:=h; amP b
theorem j9 {e e':Env} {d:Option Nat} {f:Fq} (h:∀i,d=some i->get e i=get e' i):ct e d f=ct e' d f:=by
 unfold ct;cases d with
 |none=>rfl
 |some d=>simp only; rw[h d rfl]
theorem u6 {e:Env} {d:Option Nat} {f:Fq} (h:qJ (ct e d f)=true):∀i,d=some i->bY (get e i)=false:=by
 rintro i rfl;unfold ct at h;cases hh:bY (get e i) with
 |false=>rfl
 |true=>simp[hh,qJ] at h
theorem qS {e:Env} {d:Option Nat} {sl:List Nat} {bs:Option (List Nat)} (h:qJ (ct e d (.wr sl bs))=true):ct e d (.wr sl bs)=.wr sl bs/\∀ i,d=some i->bY (get e i)=false/\aV (get e i)=[]:=by
 refine⟨?_,fun i hi=>⟨u6 h i hi,?_⟩⟩
 ·unfold ct at h ⊢;cases d with
  |none=>rfl
  |some d=>
    simp only at h ⊢;split at h
    ·simp[qJ] at h
    rename_i h1;rw[if_neg h1];split at h
    ·rename_i h2; rw[if_pos h2]
    ·simp[qJ] at h
 ·subst hi;unfold ct at h;simp only at h;split at h
  ·simp[qJ] at h
  ·split at h
   ·rename_i h2; exact fN.1 h2
   ·simp[qJ] at h
theorem zu {e:Env} {d:Option Nat} {b:Nat} (h:qJ (ct e d (.lw b))=true):ct e d (.lw b)=.lw b/\∀ i,d=some i->bY (get e i)=false/\aV (get e i)=[]:=by
 refine⟨?_,fun i hi=>⟨u6 h i hi,?_⟩⟩
 ·unfold ct at h ⊢;cases d with
  |none=>rfl
  |some d=>
    simp only at h ⊢;split at h
    ·simp[qJ] at h
    rename_i h1;rw[if_neg h1];split at h
    ·rename_i h2; rw[if_pos h2]
    ·simp[qJ] at h
 ·subst hi;unfold ct at h;simp only at h;split at h
  ·simp[qJ] at h
  ·split at h
   ·rename_i h2; exact fN.1 h2
   ·simp[qJ] at h
theorem zw {e:Env} {d:Option Nat} {f:Fq} (h:qJ (ct e d f)=true):qJ f=true:=by
 unfold ct at h;split at h
 ·exact h
 ·split at h
  ·simp[qJ] at h
  ·split at h
   ·exact h
   ·split at h
    ·rfl
    ·rfl
    ·rfl
    ·simp[qJ] at h
theorem GW {e e':Env} {d:Option Nat} {sl sl':List Nat} {bs bs':Option (List Nat)} (h:∀i,d=some i->bY (get e i)=false/\aV (get e i)=[]):ct e d (.wr sl bs)=.wr sl bs:=by
 unfold ct;cases d with
 |none=>rfl
 |some d=>simp[h d rfl]
theorem TS.out (HC:tt c call) (HW:FB c call) (HL:FD c call) {s s':St} {q:O} {f:Fq} (h:TS c call s q f s') (hf:qJ f=true):∃v s1 f1,Ev c call s q v s1 f1/\qJ (ct s.env q.dst f1)=true/\DV (ct s.env q.dst f1) f/\eC s' (ku s1 q.dst v):=by
 obtain⟨hk,s0,t1,f0,e0,NV,hle,e1⟩:=h;rw[zp] at NV;split at NV
 case h_2=>cases NV
 rename_i v u1 f1 he;have Qi:=Fj NV;have hrel:ct s0.env q.dst f1=ct s.env q.dst f1:=j9 fun i _=>(e0.1 i).symm
 have hcw:qJ (ct s.env q.dst f1)=true:=by
  rw[<-hrel,<-Qi];cases f0<;>cases f<;>simp[DV,qJ] at hle hf ⊢
 have hev:Ev c call s q v u1 f1:=⟨hk,s0,u1,e0,he,eC.rfl'⟩;refine⟨v,u1,f1,hev,hcw,by rw[<-hrel,<-Qi]; exact hle,?_⟩;unfold Fk at NV;split at NV
 case h_2=>cases NV
 rename_i u2 hp;simp only[af,aF] at NV;obtain⟨rfl,_⟩:=NV;refine e1.symm.trans ?_;cases hd:q.dst with
 |none=>rw[hd] at hp; simp[B5] at hp; subst hp; exact eC.rfl'
 |some d=>
   rw[hd] at hp
   have iF:bY (get u1.env d)=false:=by
    have h0:=u6 hcw d hd;have Wt:=zw hcw;by_cases Vu:calm f1=true
    ·obtain⟨X,hX⟩:=HC _ _ _ _ _ hev Vu;rw[hX.st.1 d];exact h0
    ·cases f1<;>simp[calm,qJ] at Vu Wt
     case wr sl bs=>
      obtain⟨V,hV⟩:=HW _ _ _ _ _ _ hev;have h2:=(qS hcw).2 d hd;rw[hV.keep d h2.1 h2.2];exact h0
     case lw b=>
      obtain⟨cs,cs',hL⟩:=HL _ _ _ _ _ hev;rw[hL.st.1 d];exact h0
     case bo=>exact absurd rfl (hev.fl _)
   simp only[B5,putB,S0,iF,Bool.false_and,bH,if_false,af] at hp;subst hp;exact eC.rfl'
theorem TS.mk (HC:tt c call) (HW:FB c call) (HL:FD c call) {s s1 s':St} {q:O} {v:AV} {f f1:Fq} (hev:Ev c call s q v s1 f1) (hcw:qJ (ct s.env q.dst f1)=true) (hle:DV (ct s.env q.dst f1) f) (hs:eC s' (ku s1 q.dst v)):TS c call s q f s':=by
 have hev':=hev;obtain⟨hk,s0,t1,e0,he,e1⟩:=hev';have hrel:ct s0.env q.dst f1=ct s.env q.dst f1:=j9 fun i _=>(e0.1 i).symm
 have xy:B5 t1 q.dst v=some (ku t1 q.dst v):=by
  cases hd:q.dst with
  |none=>rfl
  |some d=>
    have iF:bY (get t1.env d)=false:=by
     have h0:=u6 hcw d hd;have Wt:=zw hcw;rw[e1.1 d];by_cases Vu:calm f1=true
     ·obtain⟨X,hX⟩:=HC _ _ _ _ _ hev Vu;rw[hX.st.1 d];exact h0
     ·cases f1<;>simp[calm,qJ] at Vu Wt
      case wr sl bs=>
       obtain⟨V,hV⟩:=HW _ _ _ _ _ _ hev;have h2:=(qS hcw).2 d hd;rw[hV.keep d h2.1 h2.2];exact h0
      case lw b=>
       obtain⟨cs,cs',hL⟩:=HL _ _ _ _ _ hev;rw[hL.st.1 d];exact h0
      case bo=>exact absurd rfl (hev.fl _)
    simp only[B5,putB,S0,iF,Bool.false_and,bH,if_false,ku]
 refine⟨hk,s0,ku t1 q.dst v,ct s.env q.dst f1,e0,?_,hle,(acU e1 _ _).trans hs.symm⟩;rw[zp,he];simp only[Fk,xy,hrel]
end
end Go.Bm

/- Two steps whose order is open commute. -/
namespace Go.Bm
open Go.Am
section
variable {P:Program} {c:eS} {call:Nat->List AV->Heap->Option (AV × Heap)}
theorem gH {d:Nat}:∀{ps:List Rt},iE d ps=true->∀p∈ps,(∀i,p=.s i->i≠d)/\∀ i j,p=.sc i j->i≠d
 |[],_,p,hp=>by simp at hp
 |q::r,h,p,hp=>by
   have ih:iE d r=true->p∈r->_:=fun h hp=>gH (d:=d) h p hp;rcases aO.1 hp with e|e
   ·subst e;cases p with
    |s i=>simp only[iE,ae,decide_eq_true_eq] at h; exact⟨(fun k hk=>by cases hk; exact h.1),fun k j hk=>by cases hk⟩
    |sc i j=>simp only[iE,ae,decide_eq_true_eq] at h; exact⟨(fun k hk=>by cases hk),fun k l hk=>(by cases hk; exact h.1)⟩
    |c b j=>exact⟨(fun k hk=>by cases hk),fun k l hk=>by cases hk⟩
   ·have h':iE d r=true:=by
     cases q<;>simp only[iE,ae] at h
     ·exact h.2
     ·exact h.2
     ·exact h
    exact ih h' e
theorem xL {sl:List Nat} {bs:Option (List Nat)}:∀{ps:List Rt},sQ sl bs ps=true->∀p∈ps,(∀i,p=.s i->i∉sl/\i+oD∉sl)/\(∀i j,p=.sc i j->i∉sl/\i+oD∉sl)/\∀ b j,p=.c b j->∃l,bs=some l/\qe b l=false/\(j=0->b+oD∉l)
 |[],_,p,hp=>by simp at hp
 |q::r,h,p,hp=>by
   have nm:∀{i:Nat} {l:List Nat},mem i l=false->i∉l:=fun h hi=>by rw[mem_iff.2 hi] at h; cases h
   rcases aO.1 hp with e|e
   ·subst e;cases p with
    |s i=>simp only[sQ,ae,bN] at h; exact⟨fun k hk=>(by cases hk; exact⟨nm h.1.1,nm h.1.2⟩),(fun k j hk=>by cases hk),fun k j hk=>by cases hk⟩
    |sc i j=>simp only[sQ,ae,bN] at h; exact⟨(fun k hk=>by cases hk),(fun k l hk=>(by cases hk; exact⟨nm h.1.1,nm h.1.2⟩)),fun k j hk=>by cases hk⟩
    |c b j=>
      simp only[sQ,ae] at h;refine⟨(fun k hk=>by cases hk),(fun k l hk=>by cases hk),fun k l hk=>?_⟩;cases hk;cases bs with
      |none=>simp at h
      |some l=>
        simp only[ae,bN,eE,decide_eq_true_eq] at h;exact⟨l,rfl,h.1.1,fun e=>h.1.2.elim (fun q=>absurd e q) nm⟩
   ·have h':sQ sl bs r=true:=by
     cases q<;>simp only[sQ,ae] at h<;>exact h.2
    exact xL h' p e
theorem LA {sl:List Nat}:∀{l:List Nat},LB sl l=true->∀i∈l,i∉sl
 |[],_,i,hi=>by simp at hi
 |j::r,h,i,hi=>by
   simp only[LB,ae,bN] at h;rcases aO.1 hi with e|e
   ·subst e; intro hm; rw[mem_iff.2 hm] at h; cases h.1
   ·exact LA h.2 i e
theorem pB {n:Nat}:∀{ps:List Rt},iz n ps=true->∀b j,Rt.c b j∈ps->b<n
 |[],_,b,j,h=>by simp at h
 |q::r,h,b,j,hp=>by
   rcases aO.1 hp with e|e
   ·subst e; simp only[iz,ae,decide_eq_true_eq] at h; exact h.1
   ·have h':iz n r=true:=by cases q<;>simp only[iz,ae] at h<;>first|exact h|exact h.2
    exact pB h' b j e
theorem Seen.mk' {ps:List Rt} {s t:St} (h1:∀p∈ps,(∀i,p=.s i->get t.env i=get s.env i)/\(∀i j,p=.sc i j->get t.env i=get s.env i)/\∀ b j,p=.c b j->aH t.H b=aH s.H b):Seen ps s t:=by
 intro p hp;obtain⟨a,b,d⟩:=h1 p hp;refine⟨?_,fun k l e=>d k l e⟩;cases p with
 |s i=>simp only[aB,at_]; rw[a i rfl]
 |sc i j=>simp only[aB,at_]; rw[b i j rfl]
 |c k j=>simp only[aB,at_]; rw[d k j rfl]
theorem AG {x y:O} (h:kh x y=true):(∀i,x.dst=some i->i∉y.reads/\y.dst≠some i)/\∀ i,y.dst=some i->i∉x.reads/\x.dst≠some i:=by
 have nm:∀{i:Nat} {l:List Nat},mem i l=false->i∉l:=fun h hi=>by rw[mem_iff.2 hi] at h; cases h
 unfold kh at h;simp only[ae] at h;obtain⟨h1,h2⟩:=h;refine⟨fun i hi=>?_,fun i hi=>?_⟩
 ·rw[hi] at h1;simp only[ae,bN,decide_eq_true_eq] at h1;exact⟨nm h1.1,h1.2⟩
 ·rw[hi] at h2;simp only[bN] at h2;refine⟨nm h2,fun e=>?_⟩;rw[e] at h1;simp only[ae,bN,decide_eq_true_eq] at h1;exact h1.2 hi
def FN:Fq->List Rt
 |.rd ps=>ps
 |.bo ps=>ps
 |.rc b _=>[.c b 0]
 |_=>[]
theorem qh {e:Env} {d:Option Nat} {f:Fq} (h:qJ (ct e d f)=true) (hc:calm f=true):FN (ct e d f)=FN f/\(∀n,f=.al n->ct e d f=.al n)/\(∀n,ct e d f=.al n->f=.al n)/\((∀ps,ct e d f≠.bo ps)->ct e d f=f/\∀ i,d=some i->aV (get e i)=[]):=by
 unfold ct at h ⊢;cases d with
 |none=>exact⟨rfl,fun n h=>h,fun n h=>h,fun _=>⟨rfl,fun i hi=>by cases hi⟩⟩
 |some d=>
   simp only at h ⊢;split at h
   ·simp[qJ] at h
   rename_i h1;rw[if_neg h1];split at h
   ·rename_i h2;rw[if_pos h2];exact⟨rfl,fun n h=>h,fun n h=>h,fun _=>⟨rfl,fun i hi=>by cases hi; exact fN.1 h2⟩⟩
   ·rename_i h2;rw[if_neg h2];cases f<;>simp[calm,qJ] at hc h ⊢<;>simp[FN]
theorem DV.cw {f g:Fq} (h:DV f g) (hg:qJ g=true):(∀sl bs,f≠.wr sl bs)->f=g:=by
 intro hn;cases f<;>cases g<;>simp[DV,qJ] at h hg hn ⊢<;>exact h
theorem Ps {f g:Fq} (h:f.ok g=true):qJ f=true/\qJ g=true:=by
 cases f<;>cases g<;>simp[Fq.ok,qJ] at h ⊢
theorem afA {f g:Fq} {n m:Nat} (h:f.ok g=true) (hf:f=.al n):g≠.al m:=by
 subst hf; intro e; subst e; simp[Fq.ok] at h
theorem afo {f g:Fq} {n:Nat} (h:f.ok g=true) (hf:f=.al n):iz n (FN g)=true:=by
 subst hf; cases g<;>simp[Fq.ok,FN,iz] at h ⊢<;>exact h
theorem abh {f g:Fq} {n:Nat} (h:f.ok g=true) (hg:g=.al n):iz n (FN f)=true:=by
 subst hg; cases f<;>simp[Fq.ok,FN,iz] at h ⊢<;>exact h
theorem jh {d:Option Nat} {f:Fq} (h:DF d f=true) (hf:qJ f=true):∀i,d=some i->iE i (FN f)=true:=by
 rintro i rfl;cases f<;>simp[DF,FN,iE] at h ⊢<;>exact h
theorem Oj {sl:List Nat} {bs:Option (List Nat)} {y:O} {g:Fq} (h:Ol (.wr sl bs) y g=true):(∀i∈y.reads,i∉sl)/\(∀i,y.dst=some i->i∉sl/\i+oD∉sl)/\(∀ps,g=.rd ps->sQ sl bs ps=true)/\∀ b j,g=.rc b j->∃l,bs=some l/\b∉l/\b+oD∉l/\yJ b j∉l:=by
 have nm:∀{i:Nat} {l:List Nat},mem i l=false->i∉l:=fun h hi=>by rw[mem_iff.2 hi] at h; cases h
 simp only[Ol,ae] at h;obtain⟨⟨h1,h2⟩,h3⟩:=h;refine⟨LA h1,fun i hi=>?_,fun ps hp=>?_,fun b j hp=>?_⟩
 ·rw[hi] at h2; simp only[ae,bN] at h2; exact⟨nm h2.1,nm h2.2⟩
 ·subst hp; exact h3
 ·subst hp;cases bs with
  |none=>simp[Sg] at h3
  |some l=>
    simp only[Sg,ae,bN] at h3;exact⟨l,rfl,nm h3.1,nm h3.2.1,nm h3.2.2⟩
theorem BG {H X:Heap} {b:Nat} (h:b<H.length):aH (H++X) b=aH H b:=by
 unfold aH; rw[List.getElem?_append_left h]
theorem wK {b:Nat}:∀{l:List Nat},qe b l=true ↔ ∃x∈l,x=b\/RE b x=true
 |[]=>by simp[qe]
 |x::r=>by
   simp only[qe,eE,decide_eq_true_eq,wK (l:=r),aO,exists_eq_or_imp];exact⟨fun h=>h.elim (fun h=>.inl (.inl h)) (fun h=>h.elim (fun h=>.inl (.inr h)) .inr),fun h=>h.elim (fun h=>h.elim .inl (fun h=>.inr (.inl h))) (fun h=>.inr (.inr h))⟩
theorem Qx {b:Nat} {l l':List Nat} (h:∀x∈l,x∈l') (hb:qe b l'=false):qe b l=false:=by
 cases e:qe b l with
 |false=>rfl
 |true=>
   obtain⟨x,h1,h2⟩:=wK.1 e;rw[wK.2 ⟨x,h x h1,h2⟩] at hb;cases hb
theorem qA {b:Nat} {l:List Nat} (h:qe b l=false):b∉l/\∀ j,yJ b j∉l:=by
 refine⟨fun hb=>?_,fun j hb=>?_⟩
 ·rw[wK.2 ⟨b,hb,.inl rfl⟩] at h; cases h
 ·rw[wK.2 ⟨_,hb,.inr (by
   unfold RE yJ Wm;simp only[ae,decide_eq_true_eq];refine⟨by omega,by omega,?_⟩;rw[Nat.add_sub_cancel_left];exact Nat.mul_mod_left _ _)⟩] at h
  cases h
theorem uP.of_eq {b j:Nat} {s t:St} (h:aH t.H b=aH s.H b):uP b j s t:=fun cs hc=>⟨cs,by rw[h]; exact hc,rfl⟩
theorem adp (HC:tt c call) (HW:FB c call) (HL:FD c call) {s s1 s2 u1 u2:St} {x y:O} {f g f1 g1:Fq} {vx vy:AV} (hx:Ev c call s x vx u1 f1) (M5:qJ (ct s.env x.dst f1)=true) (Gv:DV (ct s.env x.dst f1) f) (Ax:eC s1 (ku u1 x.dst vx)) (hy:Ev c call s1 y vy u2 g1) (hgy:qJ (ct s1.env y.dst g1)=true) (Gu:DV (ct s1.env y.dst g1) g) (Wr:eC s2 (ku u2 y.dst vy)) (Ws:calm f1=true) (N0:calm g1=true) (Gw:kh x y=true) (dy:jx x f y g=true) :
  ∃ NK,TS c call s y g NK/\TS c call NK x f s2:=by
 obtain⟨ax,ay⟩:=AG Gw;simp only[jx,ae] at dy;obtain⟨⟨dy,hd1,H5⟩,_⟩:=dy;obtain⟨cf,cg⟩:=Ps dy;obtain⟨X,hX⟩:=HC _ _ _ _ _ hx Ws;obtain⟨Y,hY⟩:=HC _ _ _ _ _ hy N0;obtain⟨r1,r2,r3,_⟩:=qh M5 Ws;obtain⟨q1,q2,q3,_⟩:=qh hgy N0
 have nwx:∀sl bs,ct s.env x.dst f1≠.wr sl bs:=fun sl bs e=>by
  have:=zw M5;unfold ct at e;cases f1<;>simp[calm] at Ws<;>(repeat' split at e)<;>simp_all
 have nwy:∀sl bs,ct s1.env y.dst g1≠.wr sl bs:=fun sl bs e=>by
  unfold ct at e;cases g1<;>simp[calm] at N0<;>(repeat' split at e)<;>simp_all
 have ef:ct s.env x.dst f1=f:=Gv.cw cf nwx;have eg:ct s1.env y.dst g1=g:=Gu.cw cg nwy;have Ib:∀i,get s1.env i=if x.dst=some i then vx else get s.env i:=fun i=>by rw[Ax.1,eW,hX.st.1]
 have H1:s1.H=s.H++X:=by rw[Ax.2,iK,hX.st.2]
 have R4:∀i,x.dst=some i->y.dst≠some i:=fun i h=>(ax i h).2
 -- y from s
 have yr:∀i∈y.reads,get s.env i=get s1.env i:=fun i hi=>by
  rw[Ib,if_neg];intro e;exact (ax i e).1 hi
 have DZ:∀ps,g1=.rd ps->Seen ps s1 s:=fun ps yU=>by
  have Ar:FN g=ps:=by rw[<-eg,q1,yU]; rfl
  refine Seen.mk' fun p hp=>⟨fun i e=>?_,fun i j e=>?_,fun b j e=>?_⟩
  ·rw[Ib,if_neg];intro e2;have:=jh hd1 cg i e2;rw[Ar] at this;exact (gH this p hp).1 i e rfl
  ·rw[Ib,if_neg];intro e2;have:=jh hd1 cg i e2;rw[Ar] at this;exact (gH this p hp).2 i j e rfl
  ·subst e;rw[H1];rcases hX.nw with⟨e,_⟩|⟨z,e,e2⟩
   ·rw[e]; simp
   ·have:=afo dy (by rw[<-ef]; exact r2 _ e2);rw[Ar] at this;exact (BG (pB this b j hp)).symm
 have DZ:Ce g1 s1 s:=⟨DZ,fun b j hg=>by
  refine .of_eq ?_;rw[H1];rcases hX.nw with⟨e,_⟩|⟨z,e,e2⟩
  ·rw[e]; simp
  ·have:=afo dy (by rw[<-ef]; exact r2 _ e2);rw[show FN g=[.c b 0] by rw[<-eg,q1,hg]; rfl] at this;exact (BG (pB this b 0 (by simp))).symm⟩
 have yal:∀n,g1=.al n->s.H.length=n:=fun n hn=>by
  rcases hX.nw with⟨e,_⟩|⟨z,e,e2⟩
  ·rcases hY.nw with⟨e3,e4⟩|⟨z3,e3,e4⟩
   ·exact absurd hn (e4 n)
   ·rw[e4] at hn; cases hn; rw[H1,e]; simp
  ·exfalso;exact afA dy (by rw[<-ef]; exact r2 _ e2) (by rw[<-eg]; exact q2 n hn)
 have Mj:=hY.go s (fun i hi=>by rw[yr i hi]) DZ yal
 have gy:∀i,y.dst=some i->get s1.env i=get s.env i:=fun i hi=>by
  rw[Ib,if_neg];intro e;exact R4 i e hi
 have Zd:ct s.env y.dst g1=ct s1.env y.dst g1:=j9 fun i hi=>(gy i hi).symm;refine⟨ku ⟨s.env,s.H++Y⟩ y.dst vy,TS.mk HC HW HL Mj (by rw[Zd]; exact hgy) (by rw[Zd]; exact Gu) eC.rfl',?_⟩
 -- x from there
 generalize ht:ku ⟨s.env,s.H++Y⟩ y.dst vy=t;have gt:∀i,get t.env i=if y.dst=some i then vy else get s.env i:=fun i=>by rw[<-ht,eW]
 have Ht:t.H=s.H++Y:=by rw[<-ht,iK]
 have Hl:s.H.length<=s1.H.length:=by rw[H1]; simp
 have xr:∀i∈x.reads,get t.env i=get s.env i:=fun i hi=>by
  rw[gt,if_neg];intro e;exact (ay i e).1 hi
 have D0:∀ps,f1=.rd ps->Seen ps s t:=fun ps yU=>by
  have Ar:FN f=ps:=by rw[<-ef,r1,yU]; rfl
  refine Seen.mk' fun p hp=>⟨fun i e=>?_,fun i j e=>?_,fun b j e=>?_⟩
  ·rw[gt,if_neg];intro e2;have:=jh H5 cf i e2;rw[Ar] at this;exact (gH this p hp).1 i e rfl
  ·rw[gt,if_neg];intro e2;have:=jh H5 cf i e2;rw[Ar] at this;exact (gH this p hp).2 i j e rfl
  ·subst e;rw[Ht];rcases hY.nw with⟨e,_⟩|⟨z,e,e2⟩
   ·rw[e]; simp
   ·have h6:=abh dy (by rw[<-eg]; exact q2 _ e2);rw[Ar] at h6;have h7:=pB h6 b j hp;rcases hX.nw with⟨e3,_⟩|⟨z3,e3,e4⟩
    ·rw[H1,e3] at h7;exact BG (by simpa using h7)
    ·rw[yU] at e4; cases e4
 have D0:Ce f1 s t:=⟨D0,fun b j hg=>by
  refine .of_eq ?_;rw[Ht];rcases hY.nw with⟨e,_⟩|⟨z,e,e2⟩
  ·rw[e]; simp
  ·have h6:=abh dy (by rw[<-eg]; exact q2 _ e2);rw[show FN f=[.c b 0] by rw[<-ef,r1,hg]; rfl] at h6;have h7:=pB h6 b 0 (by simp);rcases hX.nw with⟨e3,_⟩|⟨z3,e3,e4⟩
   ·rw[H1,e3] at h7;exact BG (by simpa using h7)
   ·rw[hg] at e4; cases e4⟩
 have xal:∀n,f1=.al n->t.H.length=n:=fun n hn=>by
  rcases hX.nw with⟨_,e⟩|⟨z,e,e2⟩
  ·exact absurd hn (e n)
  ·rcases hY.nw with⟨e3,_⟩|⟨z3,e3,e4⟩
   ·rw[Ht,e3]; rw[hn] at e2; cases e2; simp
   ·exfalso;exact afA dy (by rw[<-ef]; exact r2 _ hn) (by rw[<-eg]; exact q2 _ e4)
 have NT:=hX.go t (fun i hi=>by rw[xr i hi]) D0 xal
 have gx:∀i,x.dst=some i->get t.env i=get s.env i:=fun i hi=>by
  rw[gt,if_neg];exact R4 i hi
 have Ze:ct t.env x.dst f1=ct s.env x.dst f1:=j9 gx;refine TS.mk HC HW HL NT (by rw[Ze]; exact M5) (by rw[Ze]; exact Gv) ⟨fun i=>?_,?_⟩
 ·rw[Wr.1,eW,hY.st.1,eW];show (if y.dst=some i then vy else get s1.env i)=(if x.dst=some i then vx else get t.env i);rw[Ib,gt];by_cases e1:x.dst=some i
  ·have:=R4 i e1;simp[e1,this]
  ·simp[e1]
 ·rw[Wr.2,iK,hY.st.2,iK];show s1.H++Y=t.H++X;rw[H1,Ht];rcases hX.nw with⟨e,_⟩|⟨z,e,e2⟩
  ·rw[e]; simp
  ·rcases hY.nw with⟨e3,_⟩|⟨z3,e3,e4⟩
   ·rw[e3]; simp
   ·exact absurd (by rw[<-eg]; exact q2 _ e4) (afA dy (by rw[<-ef]; exact r2 _ e2))
theorem DV.sub {sl sl':List Nat} {bs bs':Option (List Nat)} (h:DV (.wr sl bs) (.wr sl' bs')):∀i∈sl,i∈sl':=h.1
theorem DV.Oi {f:Fq} {sl:List Nat} {bs:Option (List Nat)} (h:DV (.wr sl bs) f) (hc:qJ f=true):∃sl' bs',f=.wr sl' bs':=by
 cases f<;>simp[DV,qJ] at h hc ⊢
theorem anD {f:Fq} {sl:List Nat} {bs:Option (List Nat)} (h:f.ok (.wr sl bs)=true):(∀ps,f≠.bo ps)/\(∀n,f≠.al n):=by
 cases f<;>simp[Fq.ok] at h ⊢
theorem afm {f:Fq} {sl:List Nat} {bs:Option (List Nat)} (h:Fq.ok (.wr sl bs) f=true):(∀ps,f≠.bo ps)/\(∀n,f≠.al n)/\∀ sl bs,f≠.wr sl bs:=by
 cases f<;>simp[Fq.ok] at h ⊢
theorem ajd (HC:tt c call) (HW:FB c call) (HL:FD c call) {s s1 s2 u1 u2:St} {x y:O} {f g f1:Fq} {sl0:List Nat} {MZ:Option (List Nat)} {vx vy:AV} (hx:Ev c call s x vx u1 f1) (M5:qJ (ct s.env x.dst f1)=true) (Gv:DV (ct s.env x.dst f1) f) (Ax:eC s1 (ku u1 x.dst vx)) (hy:Ev c call s1 y vy u2 (.wr sl0 MZ)) (hgy:qJ (ct s1.env y.dst (.wr sl0 MZ))=true) (Gu:DV (ct s1.env y.dst (.wr sl0 MZ)) g) (Wr:eC s2 (ku u2 y.dst vy)) (Ws:calm f1=true) (Gw:kh x y=true) (dy:jx x f y g=true) :
  ∃ NK,TS c call s y g NK/\TS c call NK x f s2:=by
 obtain⟨ax,ay⟩:=AG Gw;simp only[jx,ae] at dy;obtain⟨⟨dy,hd1,H5⟩,_,hw⟩:=dy;obtain⟨cf,cg⟩:=Ps dy;obtain⟨X,hX⟩:=HC _ _ _ _ _ hx Ws;obtain⟨V,hV⟩:=HW _ _ _ _ _ _ hy;obtain⟨r1,r2,r3,r4⟩:=qh M5 Ws;obtain⟨q1,q2⟩:=qS hgy;rw[q1] at Gu;obtain⟨sl,bs,rfl⟩:=Gu.Oi cg;obtain⟨o1,o2⟩:=anD dy
 have nwx:∀sl bs,ct s.env x.dst f1≠.wr sl bs:=fun sl bs e=>by
  unfold ct at e;cases f1<;>simp[calm] at Ws<;>(repeat' split at e)<;>simp_all
 have ef:ct s.env x.dst f1=f:=Gv.cw cf nwx;obtain⟨e1,hbx⟩:=r4 (fun ps e=>o1 ps (ef▸e));have ef':f1=f:=e1▸ef
 have hX0:X=[]:=by
  rcases hX.nw with⟨e,_⟩|⟨z,e,e2⟩
  ·exact e
  ·exact absurd (ef'▸e2) (o2 _)
 subst hX0;obtain⟨w1,w2,w3,w4⟩:=Oj hw;have sub:∀{i:Nat},i∉sl->i∉sl0:=fun h hi=>h (Gu.sub _ hi);have R4:∀i,x.dst=some i->y.dst≠some i:=fun i h=>(ax i h).2;have Ib:∀i,get s1.env i=if x.dst=some i then vx else get s.env i:=fun i=>by rw[Ax.1,eW,hX.st.1]
 have H1:s1.H=s.H:=by rw[Ax.2,iK,hX.st.2]; simp
 -- y from s
 have Bq:∃t1 sl',Ev c call s y vy t1 (.wr sl' MZ)/\(∀i∈sl',i∈sl0)/\(∀i,get t1.env i=if x.dst=some i then get s.env i else get u2.env i)/\t1.H=u2.H:=by
  cases hd:x.dst with
  |none=>
    refine⟨u2,sl0,hy.same ⟨fun i=>?_,H1⟩ eC.rfl',fun i hi=>hi,fun i=>by simp,rfl⟩;rw[Ib,hd]; simp
  |some d=>
    obtain⟨t1,sl',h1,h2,h3⟩:=hV.go d (get s.env d) (fun h=>(ax d hd).1 h) (sub (w2 d hd).1) (sub (w2 d hd).2) (fun p hp=>by rw[hbx d hd] at hp; simp at hp);refine⟨t1,sl',h1.same ⟨fun i=>?_,H1⟩ eC.rfl',h2,fun i=>?_,h3.2⟩
    ·show get (put s1.env d (get s.env d)) i=get s.env i;rw[bQ];split
     ·rename_i e; rw[e]
     ·rename_i e;rw[Ib,hd,if_neg];simp; exact fun h=>e h.symm
    ·rw[h3.1];show get (put u2.env d (get s.env d)) i=_;rw[bQ];by_cases e:i=d
     ·subst e; simp
     ·have:d≠i:=fun h=>e h.symm;simp[e,this]
 obtain⟨t1,sl',Mj,hsl',gt1,Ht1⟩:=Bq
 have gy:∀i,y.dst=some i->get s1.env i=get s.env i:=fun i hi=>by
  rw[Ib,if_neg];intro e;exact R4 i e hi
 have Zd:ct s.env y.dst (.wr sl' MZ)=.wr sl' MZ:=GW (sl':=sl') (bs':=MZ) (e':=s.env) fun i hi=>by rw[<-gy i hi]; exact q2 i hi
 have ley:DV (.wr sl' MZ) (.wr sl bs):=⟨fun i hi=>Gu.1 i (hsl' i hi),Gu.2⟩;refine⟨ku t1 y.dst vy,TS.mk HC HW HL Mj (by rw[Zd]; rfl) (by rw[Zd]; exact ley) eC.rfl',?_⟩;generalize ht:ku t1 y.dst vy=t;have gt:∀i,get t.env i=if y.dst=some i then vy else if x.dst=some i then get s.env i else get u2.env i:=fun i=>by rw[<-ht,eW,gt1]
 have Ht:t.H=u2.H:=by rw[<-ht,iK,Ht1]
 have Oe:∀i,i∉sl->i+oD∉sl->y.dst≠some i->get t.env i=get s.env i:=fun i hi hi2 hd=>by
  rw[gt,if_neg hd];split
  ·rfl
  ·rename_i e;rw[hV.env i (sub hi) (sub hi2),Ib,if_neg e]
 have ahe:∀i,i∉sl->y.dst≠some i->fE i (get t.env i)=fE i (get s.env i):=fun i hi hd=>by
  rw[gt,if_neg hd];split
  ·rfl
  ·rename_i e;rw[hV.hd i (sub hi),Ib,if_neg e]
 have xr:∀i∈x.reads,fE i (get t.env i)=fE i (get s.env i):=fun i hi=>ahe i (w1 i hi) fun e=>(ay i e).1 hi
 have D0:∀ps,f1=.rd ps->Seen ps s t:=fun ps yU=>by
  have Ar:f=.rd ps:=by rw[<-ef']; exact yU
  refine Seen.mk' fun p hp=>?_;obtain⟨a1,a2,a3⟩:=xL (w3 ps Ar) p hp
  have ns:∀i,y.dst=some i->(∀k,p=.s k->k≠i)/\∀ k j,p=.sc k j->k≠i:=fun i hi=>by
   have:=jh H5 cf i hi;rw[Ar] at this;exact gH this p hp
  refine⟨fun i e=>Oe i (a1 i e).1 (a1 i e).2 fun h=>(ns i h).1 i e rfl,fun i j e=>Oe i (a2 i j e).1 (a2 i j e).2 fun h=>(ns i h).2 i j e rfl,fun b j e=>?_⟩;obtain⟨l,e5,e6,_⟩:=a3 b j e;subst e5;have h8:=Gu.2;cases MZ with
  |none=>simp at h8
  |some l0=>
    rw[Ht,hV.heap l0 rfl b (Qx h8 e6),H1]
 have D0:Ce f1 s t:=⟨D0,fun b j yU=>by
  have Ar:f=.rc b j:=by rw[<-ef']; exact yU
  obtain⟨l,e5,e6,e7,e8⟩:=w4 b j Ar;subst e5;have h8:=Gu.2;cases MZ with
  |none=>simp at h8
  |some l0=>
    have h9:=(hV.cell l0 rfl b j (fun h=>e6 (h8 b h)) (fun h=>e8 (h8 _ h))).1;intro cs hc;rw[<-H1] at hc;rw[Ht];exact h9 cs hc⟩
 have xal:∀n,f1=.al n->t.H.length=n:=fun n hn=>absurd (ef'▸hn) (o2 n);have NT:=hX.go t xr D0 xal;have gx:∀i,x.dst=some i->get t.env i=get s.env i:=fun i hi=>Oe i (w2 i hi).1 (w2 i hi).2 (R4 i hi);have Ze:ct t.env x.dst f1=ct s.env x.dst f1:=j9 gx;refine TS.mk HC HW HL NT (by rw[Ze]; exact M5) (by rw[Ze]; exact Gv) ⟨fun i=>?_,?_⟩
 ·rw[Wr.1,eW,eW];show (if y.dst=some i then vy else get u2.env i)=(if x.dst=some i then vx else get t.env i);rw[gt];by_cases e1:x.dst=some i
  ·have:=R4 i e1;simp only[e1,this,if_true,if_false];rw[hV.env i (sub (w2 i e1).1) (sub (w2 i e1).2),Ib,if_pos e1]
  ·simp[e1]
 ·rw[Wr.2,iK,iK];show u2.H=t.H++[];rw[Ht]; simp
theorem ajb (HC:tt c call) (HW:FB c call) (HL:FD c call) {s s1 s2 u1 u2:St} {x y:O} {f g g1:Fq} {sl0:List Nat} {MZ:Option (List Nat)} {vx vy:AV} (hx:Ev c call s x vx u1 (.wr sl0 MZ)) (M5:qJ (ct s.env x.dst (.wr sl0 MZ))=true) (Gv:DV (ct s.env x.dst (.wr sl0 MZ)) f) (Ax:eC s1 (ku u1 x.dst vx)) (hy:Ev c call s1 y vy u2 g1) (hgy:qJ (ct s1.env y.dst g1)=true) (Gu:DV (ct s1.env y.dst g1) g) (Wr:eC s2 (ku u2 y.dst vy)) (N0:calm g1=true) (Gw:kh x y=true) (dy:jx x f y g=true) :
  ∃ NK,TS c call s y g NK/\TS c call NK x f s2:=by
 obtain⟨ax,ay⟩:=AG Gw;simp only[jx,ae] at dy;obtain⟨⟨dy,hd1,H5⟩,hw,_⟩:=dy;obtain⟨cf,cg⟩:=Ps dy;obtain⟨V,hV⟩:=HW _ _ _ _ _ _ hx;obtain⟨Y,hY⟩:=HC _ _ _ _ _ hy N0;obtain⟨r1,r2⟩:=qS M5;obtain⟨q1,q2,q3,q4⟩:=qh hgy N0;rw[r1] at Gv;obtain⟨sl,bs,rfl⟩:=Gv.Oi cf;obtain⟨o1,o2,_⟩:=afm dy
 have nwy:∀sl bs,ct s1.env y.dst g1≠.wr sl bs:=fun sl bs e=>by
  unfold ct at e;cases g1<;>simp[calm] at N0<;>(repeat' split at e)<;>simp_all
 have eg:ct s1.env y.dst g1=g:=Gu.cw cg nwy;obtain⟨e1,_⟩:=q4 (fun ps e=>o1 ps (eg▸e));have eg':g1=g:=e1▸eg
 have hY0:Y=[]:=by
  rcases hY.nw with⟨e,_⟩|⟨z,e,e2⟩
  ·exact e
  ·exact absurd (eg'▸e2) (o2 _)
 subst hY0;obtain⟨w1,w2,w3,w4⟩:=Oj hw;have sub:∀{i:Nat},i∉sl->i∉sl0:=fun h hi=>h (Gv.sub _ hi);have R4:∀i,x.dst=some i->y.dst≠some i:=fun i h=>(ax i h).2;have Ib:∀i,get s1.env i=if x.dst=some i then vx else get u1.env i:=fun i=>by rw[Ax.1,eW]
 have H1:s1.H=u1.H:=by rw[Ax.2,iK]
 have Oe:∀i,i∉sl->i+oD∉sl->x.dst≠some i->get s.env i=get s1.env i:=fun i hi hi2 hd=>by rw[Ib,if_neg hd,hV.env i (sub hi) (sub hi2)]
 have ahe:∀i,i∉sl->x.dst≠some i->fE i (get s.env i)=fE i (get s1.env i):=fun i hi hd=>by rw[Ib,if_neg hd,hV.hd i (sub hi)]
 have akJ:∀b j,g1=.rc b j->∃l,MZ=some l/\b∉l/\b+oD∉l/\yJ b j∉l:=fun b j yU=>by
  obtain⟨l,e5,e6,e7,e8⟩:=w4 b j (by rw[<-eg']; exact yU);subst e5;have h8:=Gv.2;cases MZ with
  |none=>simp at h8
  |some l0=>exact⟨l0,rfl,fun h=>e6 (h8 b h),fun h=>e7 (h8 _ h),fun h=>e8 (h8 _ h)⟩
 have boxes:∀{ps:List Rt},g1=.rd ps->∀b j,Rt.c b j∈ps->∃l,MZ=some l/\qe b l=false/\(j=0->b+oD∉l):=fun{ps} yU b j hp=>by
  have Ar:g=.rd ps:=by rw[<-eg']; exact yU
  obtain⟨_,_,a3⟩:=xL (w3 ps Ar) _ hp;obtain⟨l,e5,e6,e7⟩:=a3 b j rfl;subst e5;have h8:=Gv.2;cases MZ with
  |none=>simp at h8
  |some l0=>exact⟨l0,rfl,Qx h8 e6,fun e h=>e7 e (h8 _ h)⟩
 have yr:∀i∈y.reads,fE i (get s.env i)=fE i (get s1.env i):=fun i hi=>ahe i (w1 i hi) fun e=>(ax i e).1 hi
 have DZ:∀ps,g1=.rd ps->Seen ps s1 s:=fun ps yU=>by
  have Ar:g=.rd ps:=by rw[<-eg']; exact yU
  refine Seen.mk' fun p hp=>?_;obtain⟨a1,a2,_⟩:=xL (w3 ps Ar) p hp
  have ns:∀i,x.dst=some i->(∀k,p=.s k->k≠i)/\∀ k j,p=.sc k j->k≠i:=fun i hi=>by
   have:=jh hd1 cg i hi;rw[Ar] at this;exact gH this p hp
  refine⟨fun i e=>Oe i (a1 i e).1 (a1 i e).2 fun h=>(ns i h).1 i e rfl,fun i j e=>Oe i (a2 i j e).1 (a2 i j e).2 fun h=>(ns i h).2 i j e rfl,fun b j e=>?_⟩;subst e;obtain⟨l,e5,e6,_⟩:=boxes yU b j hp;rw[H1,hV.heap l e5 b e6]
 have DZ:Ce g1 s1 s:=⟨DZ,fun b j yU=>by
  obtain⟨l,e5,e6,e7,e8⟩:=akJ b j yU;intro cs hc;rw[H1] at hc;exact (hV.cell l e5 b j e6 e8).2 cs hc⟩
 have yal:∀n,g1=.al n->s.H.length=n:=fun n hn=>absurd (eg'▸hn) (o2 n);have Mj:=hY.go s yr DZ yal;have gy:∀i,y.dst=some i->get s1.env i=get s.env i:=fun i hi=>(Oe i (w2 i hi).1 (w2 i hi).2 (fun e=>R4 i e hi)).symm;have Zd:ct s.env y.dst g1=ct s1.env y.dst g1:=j9 fun i hi=>(gy i hi).symm;refine⟨ku ⟨s.env,s.H++[]⟩ y.dst vy,TS.mk HC HW HL Mj (by rw[Zd]; exact hgy) (by rw[Zd]; exact Gu) eC.rfl',?_⟩
 have ano:∀p∈aV vy,¬V p:=by
  obtain⟨Y',hYs⟩:=HC _ _ _ _ _ Mj N0;refine hYs.val V (fun i hi=>hV.v1 i (sub (w1 i hi))) (fun ps yU b hp cs hb=>?_) fun b j yU cs c0 hb hc=>?_
  ·obtain⟨l0,e5,e6,e7⟩:=boxes yU b 0 hp;exact hV.v2 l0 e5 b e6 (e7 rfl) cs hb
  ·obtain⟨l0,e5,e6,e7,e8⟩:=akJ b j yU;exact hV.v3 l0 e5 b j e6 e7 e8 cs c0 hb hc
 have Bq:∃t1 sl',Ev c call (ku ⟨s.env,s.H++[]⟩ y.dst vy) x vx t1 (.wr sl' MZ)/\(∀i∈sl',i∈sl0)/\eC t1 (ku u1 y.dst vy):=by
  cases hd:y.dst with
  |none=>exact⟨u1,sl0,hx.same ⟨fun i=>rfl,by simp[ku]⟩ eC.rfl',fun i hi=>hi,eC.rfl'⟩
  |some d=>
    obtain⟨t1,sl',h1,h2,h3⟩:=hV.go d vy (fun h=>(ay d hd).1 h) (sub (w2 d hd).1) (sub (w2 d hd).2) ano;exact⟨t1,sl',h1.same ⟨fun i=>rfl,by simp[ku]⟩ eC.rfl',h2,h3⟩
 obtain⟨t1,sl',NT,hsl',ht1⟩:=Bq;have gx:∀i,x.dst=some i->get (ku ⟨s.env,s.H++[]⟩ y.dst vy).env i=get s.env i:=fun i hi=>by rw[eW,if_neg (R4 i hi)]
 have Ze:ct (ku ⟨s.env,s.H++[]⟩ y.dst vy).env x.dst (.wr sl' MZ)=.wr sl' MZ:=GW (sl':=sl') (bs':=MZ) (e':=s.env) fun i hi=>by rw[gx i hi]; exact r2 i hi
 have lex:DV (.wr sl' MZ) (.wr sl bs):=⟨fun i hi=>Gv.1 i (hsl' i hi),Gv.2⟩;refine TS.mk HC HW HL NT (by rw[Ze]; rfl) (by rw[Ze]; exact lex) ⟨fun i=>?_,?_⟩
 ·rw[Wr.1,eW,hY.st.1,eW,ht1.1,eW];show (if y.dst=some i then vy else get s1.env i)=(if x.dst=some i then vx else if y.dst=some i then vy else get u1.env i);rw[Ib];by_cases e1:x.dst=some i
  ·have:=R4 i e1;simp[e1,this]
  ·simp[e1]
 ·rw[Wr.2,iK,hY.st.2,iK,ht1.2,iK];show s1.H++[]=u1.H;rw[H1]; simp
theorem DV.Ut {f:Fq} {b:Nat} (h:DV (.lw b) f) (hc:qJ f=true):f=.lw b:=by
 cases f<;>simp[DV,qJ] at h hc ⊢
 exact h.symm
theorem aky {f:Fq} {b:Nat} (h:f.ok (.lw b)=true):(∀ps,f≠.bo ps)/\(∀n,f=.al n->b<n)/\(∀ps,f=.rd ps->uu b ps=true)/\(∀d j,f=.rc d j->d≠b)/\(∀sl bs,f≠.wr sl bs)/\∀ d,f≠.lw d:=by
 cases f<;>simp[Fq.ok] at h ⊢<;>exact h
theorem afu {f:Fq} {b:Nat} (h:Fq.ok (.lw b) f=true):(∀ps,f≠.bo ps)/\(∀n,f=.al n->b<n)/\(∀ps,f=.rd ps->uu b ps=true)/\(∀d j,f=.rc d j->d≠b)/\(∀sl bs,f≠.wr sl bs)/\∀ d,f≠.lw d:=by
 cases f<;>simp[Fq.ok] at h ⊢<;>exact h
theorem Dd {b:Nat}:∀{ps:List Rt},uu b ps=true->∀d j,Rt.c d j∈ps->d≠b
 |[],_,d,j,h=>by simp at h
 |q::r,h,d,j,hp=>by
   rcases aO.1 hp with e|e
   ·subst e; simp only[uu,ae,decide_eq_true_eq] at h; exact h.1
   ·have h':uu b r=true:=by cases q<;>simp only[uu,ae] at h<;>first|exact h|exact h.2
    exact Dd h' d j e
theorem aje (HC:tt c call) (HW:FB c call) (HL:FD c call) {s s1 s2 u1 u2:St} {x y:O} {f g f1:Fq} {b:Nat} {vx vy:AV} (hx:Ev c call s x vx u1 f1) (M5:qJ (ct s.env x.dst f1)=true) (Gv:DV (ct s.env x.dst f1) f) (Ax:eC s1 (ku u1 x.dst vx)) (hy:Ev c call s1 y vy u2 (.lw b)) (hgy:qJ (ct s1.env y.dst (.lw b))=true) (Gu:DV (ct s1.env y.dst (.lw b)) g) (Wr:eC s2 (ku u2 y.dst vy)) (Ws:calm f1=true) (Gw:kh x y=true) (dy:jx x f y g=true) :
  ∃ NK,TS c call s y g NK/\TS c call NK x f s2:=by
 obtain⟨ax,ay⟩:=AG Gw;simp only[jx,ae] at dy;obtain⟨⟨dy,hd1,H5⟩,_⟩:=dy;obtain⟨cf,cg⟩:=Ps dy;obtain⟨X,hX⟩:=HC _ _ _ _ _ hx Ws;obtain⟨cs,cs',hY⟩:=HL _ _ _ _ _ hy;obtain⟨r1,r2,r3,r4⟩:=qh M5 Ws;obtain⟨q1,q2⟩:=zu hgy;have hly':=Gu;rw[q1] at hly';have hg:=hly'.Ut cg;subst hg;obtain⟨o1,o2,o3,o4,_,_⟩:=aky dy
 have nwx:∀sl bs,ct s.env x.dst f1≠.wr sl bs:=fun sl bs e=>by
  unfold ct at e;cases f1<;>simp[calm] at Ws<;>(repeat' split at e)<;>simp_all
 have ef:ct s.env x.dst f1=f:=Gv.cw cf nwx;obtain⟨e1,_⟩:=r4 (fun ps e=>o1 ps (ef▸e));have ef':f1=f:=e1▸ef;subst ef';have Ib:∀i,get s1.env i=if x.dst=some i then vx else get s.env i:=fun i=>by rw[Ax.1,eW,hX.st.1]
 have H1:s1.H=s.H++X:=by rw[Ax.2,iK,hX.st.2]
 have R4:∀i,x.dst=some i->y.dst≠some i:=fun i h=>(ax i h).2
 have blt:b<s.H.length:=by
  have h1:=dU hY.bl;rcases hX.nw with⟨e,_⟩|⟨z,e,e2⟩
  ·rw[H1,e] at h1; simpa using h1
  ·exact o2 _ e2
 have N3:aH s.H b=some cs:=by
  have h1:=hY.bl;rw[H1,BG blt] at h1;exact h1
 have yr:∀i∈y.reads,get s.env i=get s1.env i:=fun i hi=>by
  rw[Ib,if_neg];intro e;exact (ax i e).1 hi
 have Mj:=hY.go s yr N3
 have gy:∀i,y.dst=some i->get s1.env i=get s.env i:=fun i hi=>by
  rw[Ib,if_neg];intro e;exact R4 i e hi
 have Zd:ct s.env y.dst (.lw b)=ct s1.env y.dst (.lw b):=j9 fun i hi=>(gy i hi).symm;refine⟨ku ⟨s.env,s.H.set b (some cs')⟩ y.dst vy,TS.mk HC HW HL Mj (by rw[Zd]; exact hgy) (by rw[Zd]; exact Gu) eC.rfl',?_⟩;generalize ht:ku ⟨s.env,s.H.set b (some cs')⟩ y.dst vy=t;have gt:∀i,get t.env i=if y.dst=some i then vy else get s.env i:=fun i=>by rw[<-ht,eW]
 have Ht:t.H=s.H.set b (some cs'):=by rw[<-ht,iK]
 have xr:∀i∈x.reads,get t.env i=get s.env i:=fun i hi=>by
  rw[gt,if_neg];intro e;exact (ay i e).1 hi
 have hbx:∀d,d≠b->aH t.H d=aH s.H d:=fun d hd=>by rw[Ht,dH,if_neg (fun h=>hd h.1)]
 have D0:Ce f1 s t:=by
  refine⟨fun ps yU=>Seen.mk' fun p hp=>⟨fun i e=>?_,fun i j e=>?_,fun d j e=>?_⟩,fun d j hf=>.of_eq (hbx d (o4 d j hf))⟩
  ·rw[gt,if_neg];intro e2;have:=jh H5 cf i e2;rw[yU] at this;exact (gH (show iE i ps=true from this) p hp).1 i e rfl
  ·rw[gt,if_neg];intro e2;have:=jh H5 cf i e2;rw[yU] at this;exact (gH (show iE i ps=true from this) p hp).2 i j e rfl
  ·subst e;exact hbx d (Dd (o3 ps yU) d j hp)
 have xal:∀n,f1=.al n->t.H.length=n:=fun n hn=>by
  rcases hX.nw with⟨_,e⟩|⟨z,e,e2⟩
  ·exact absurd hn (e n)
  ·rw[hn] at e2; cases e2; rw[Ht]; simp
 have NT:=hX.go t (fun i hi=>by rw[xr i hi]) D0 xal
 have gx:∀i,x.dst=some i->get t.env i=get s.env i:=fun i hi=>by
  rw[gt,if_neg];exact R4 i hi
 have Ze:ct t.env x.dst f1=ct s.env x.dst f1:=j9 gx;refine TS.mk HC HW HL NT (by rw[Ze]; exact M5) (by rw[Ze]; exact Gv) ⟨fun i=>?_,?_⟩
 ·rw[Wr.1,eW,hY.st.1,eW];show (if y.dst=some i then vy else get s1.env i)=if x.dst=some i then vx else get t.env i;rw[Ib,gt];by_cases h1:x.dst=some i
  ·simp[h1,R4 i h1]
  ·simp[h1]
 ·rw[Wr.2,iK,hY.st.2,iK];show s1.H.set b (some cs')=t.H++X;rw[H1,Ht,Y0 _ _ blt]
theorem ajc (HC:tt c call) (HW:FB c call) (HL:FD c call) {s s1 s2 u1 u2:St} {x y:O} {f g g1:Fq} {b:Nat} {vx vy:AV} (hx:Ev c call s x vx u1 (.lw b)) (M5:qJ (ct s.env x.dst (.lw b))=true) (Gv:DV (ct s.env x.dst (.lw b)) f) (Ax:eC s1 (ku u1 x.dst vx)) (hy:Ev c call s1 y vy u2 g1) (hgy:qJ (ct s1.env y.dst g1)=true) (Gu:DV (ct s1.env y.dst g1) g) (Wr:eC s2 (ku u2 y.dst vy)) (N0:calm g1=true) (Gw:kh x y=true) (dy:jx x f y g=true) :
  ∃ NK,TS c call s y g NK/\TS c call NK x f s2:=by
 obtain⟨ax,ay⟩:=AG Gw;simp only[jx,ae] at dy;obtain⟨⟨dy,hd1,H5⟩,_⟩:=dy;obtain⟨cf,cg⟩:=Ps dy;obtain⟨cs,cs',hX⟩:=HL _ _ _ _ _ hx;obtain⟨Y,hY⟩:=HC _ _ _ _ _ hy N0;obtain⟨q1,q2⟩:=zu M5;have hlx':=Gv;rw[q1] at hlx';have hf:=hlx'.Ut cf;subst hf;obtain⟨o1,o2,o3,o4,_,_⟩:=afu dy;obtain⟨r1,r2,r3,r4⟩:=qh hgy N0
 have nwy:∀sl bs,ct s1.env y.dst g1≠.wr sl bs:=fun sl bs e=>by
  unfold ct at e;cases g1<;>simp[calm] at N0<;>(repeat' split at e)<;>simp_all
 have eg:ct s1.env y.dst g1=g:=Gu.cw cg nwy;obtain⟨e1,_⟩:=r4 (fun ps e=>o1 ps (eg▸e));have eg':g1=g:=e1▸eg;subst eg';have Ib:∀i,get s1.env i=if x.dst=some i then vx else get s.env i:=fun i=>by rw[Ax.1,eW,hX.st.1]
 have H1:s1.H=s.H.set b (some cs'):=by rw[Ax.2,iK,hX.st.2]
 have R4:∀i,x.dst=some i->y.dst≠some i:=fun i h=>(ax i h).2;have blt:b<s.H.length:=dU hX.bl;have hbx:∀d,d≠b->aH s.H d=aH s1.H d:=fun d hd=>by rw[H1,dH,if_neg (fun h=>hd h.1)]
 have yr:∀i∈y.reads,get s.env i=get s1.env i:=fun i hi=>by
  rw[Ib,if_neg];intro e;exact (ax i e).1 hi
 have DZ:Ce g1 s1 s:=by
  refine⟨fun ps yU=>Seen.mk' fun p hp=>⟨fun i e=>?_,fun i j e=>?_,fun d j e=>?_⟩,fun d j hf=>.of_eq (hbx d (o4 d j hf))⟩
  ·rw[Ib,if_neg];intro e2;have:=jh hd1 cg i e2;rw[yU] at this;exact (gH (show iE i ps=true from this) p hp).1 i e rfl
  ·rw[Ib,if_neg];intro e2;have:=jh hd1 cg i e2;rw[yU] at this;exact (gH (show iE i ps=true from this) p hp).2 i j e rfl
  ·subst e;exact hbx d (Dd (o3 ps yU) d j hp)
 have yal:∀n,g1=.al n->s.H.length=n:=fun n hn=>by
  rcases hY.nw with⟨_,e⟩|⟨z,e,e2⟩
  ·exact absurd hn (e n)
  ·rw[hn] at e2; cases e2; rw[H1]; simp
 have Mj:=hY.go s (fun i hi=>by rw[yr i hi]) DZ yal
 have gy:∀i,y.dst=some i->get s1.env i=get s.env i:=fun i hi=>by
  rw[Ib,if_neg];intro e;exact R4 i e hi
 have Zd:ct s.env y.dst g1=ct s1.env y.dst g1:=j9 fun i hi=>(gy i hi).symm;refine⟨ku ⟨s.env,s.H++Y⟩ y.dst vy,TS.mk HC HW HL Mj (by rw[Zd]; exact hgy) (by rw[Zd]; exact Gu) eC.rfl',?_⟩;generalize ht:ku ⟨s.env,s.H++Y⟩ y.dst vy=t;have gt:∀i,get t.env i=if y.dst=some i then vy else get s.env i:=fun i=>by rw[<-ht,eW]
 have Ht:t.H=s.H++Y:=by rw[<-ht,iK]
 have xr:∀i∈x.reads,get t.env i=get s.env i:=fun i hi=>by
  rw[gt,if_neg];intro e;exact (ay i e).1 hi
 have NT:=hX.go t xr (by rw[Ht,BG blt]; exact hX.bl)
 have gx:∀i,x.dst=some i->get t.env i=get s.env i:=fun i hi=>by
  rw[gt,if_neg];exact R4 i hi
 have Ze:ct t.env x.dst (.lw b)=ct s.env x.dst (.lw b):=j9 gx;refine TS.mk HC HW HL NT (by rw[Ze]; exact M5) (by rw[Ze]; exact Gv) ⟨fun i=>?_,?_⟩
 ·rw[Wr.1,eW,hY.st.1,eW];show (if y.dst=some i then vy else get s1.env i)=if x.dst=some i then vx else get t.env i;rw[Ib,gt];by_cases h1:x.dst=some i
  ·simp[h1,R4 i h1]
  ·simp[h1]
 ·rw[Wr.2,iK,hY.st.2,iK];show s1.H++Y=t.H.set b (some cs');rw[H1,Ht,Y0 _ _ blt]
theorem amR (HC:tt c call) (HW:FB c call) (HL:FD c call):Wk (TS c call):=by
 intro s x f s1 y g s2 hx hy Gw dy;have NX:=dy;simp only[jx,ae] at NX;obtain⟨cf,cg⟩:=Ps NX.1.1;obtain⟨vx,u1,f1,x1,x2,x3,x4⟩:=hx.out HC HW HL cf;obtain⟨vy,u2,g1,y1,y2,y3,y4⟩:=hy.out HC HW HL cg;have c1:=zw x2;have c2:=zw y2;by_cases Ws:calm f1=true
 ·by_cases N0:calm g1=true
  ·exact adp HC HW HL x1 x2 x3 x4 y1 y2 y3 y4 Ws N0 Gw dy
  ·cases g1<;>simp[calm,qJ] at N0 c2
   case wr sl bs=>exact ajd HC HW HL x1 x2 x3 x4 y1 y2 y3 y4 Ws Gw dy
   case bo=>exact absurd rfl (y1.fl _)
   case lw b=>exact aje HC HW HL x1 x2 x3 x4 y1 y2 y3 y4 Ws Gw dy
 ·cases f1<;>simp[calm,qJ] at Ws c1
  case wr sl bs=>
   by_cases N0:calm g1=true
   ·exact ajb HC HW HL x1 x2 x3 x4 y1 y2 y3 y4 N0 Gw dy
   ·cases g1<;>simp[calm,qJ] at N0 c2
    case wr sl' bs'=>
     exfalso;rw[(qS x2).1] at x3;rw[(qS y2).1] at y3;obtain⟨_,_,rfl⟩:=x3.Oi cf;obtain⟨_,_,rfl⟩:=y3.Oi cg;exact (afm NX.1.1).2.2 _ _ rfl
    case bo=>exact absurd rfl (y1.fl _)
    case lw b=>
     exfalso;rw[(qS x2).1] at x3;rw[(zu y2).1] at y3;obtain⟨_,_,rfl⟩:=x3.Oi cf;have:=y3.Ut cg;subst this;exact (aky NX.1.1).2.2.2.2.1 _ _ rfl
  case bo=>exact absurd rfl (x1.fl _)
  case lw b=>
   by_cases N0:calm g1=true
   ·exact ajc HC HW HL x1 x2 x3 x4 y1 y2 y3 y4 N0 Gw dy
   ·exfalso;rw[(zu x2).1] at x3;have hf:=x3.Ut cf;subst hf;obtain⟨_,_,_,_,o5,o6⟩:=afu NX.1.1;cases g1<;>simp[calm,qJ] at N0 c2
    case wr sl' bs'=>
     rw[(qS y2).1] at y3;obtain⟨_,_,rfl⟩:=y3.Oi cg;exact o5 _ _ rfl
    case bo=>exact absurd rfl (y1.fl _)
    case lw d=>
     rw[(zu y2).1] at y3;exact o6 _ (y3.Ut cg)
end
end Go.Bm

/- What the value of a calm operation mentions was read. -/
namespace Go.Bm
open Go.Am
section
variable {P:Program} {c:eS} {call:Nat->List AV->Heap->Option (AV × Heap)} {V:Rt->Prop}
def Sl (V:Rt->Prop) (x:AV):Prop:=∀p∈aV x,¬V p
theorem lI {p:Rt}:∀{cs:List AV},p∈dz cs ↔ ∃x∈cs,p∈aV x
 |[]=>by simp[dz]
 |x::r=>by simp[dz,lI (cs:=r)]
theorem Gi {f:Nat->Rt} {p:Rt}:∀{cs:List AV} {j:Nat},p∈dz (fj f j cs)->p∈dz cs\/∃ i,p=f i
 |[],j,h=>by simp[fj,dz] at h
 |x::r,j,h=>by
   have ih:=fun h=>Gi (f:=f) (p:=p) (cs:=r) (j:=j+1) h;cases x<;>simp only[fj,dz,aV,aI,List.nil_append,aO,List.not_mem_nil,or_false] at h ih ⊢
   case own k xs=>
    rcases h with h|h
    ·exact .inr ⟨j,h⟩
    ·exact ih h
   all_goals first
    |exact ih h
    | (rcases h with h | h
       ·exact .inl (.inl h)
       ·rcases ih h with h|h
        ·exact .inl (.inr h)
        ·exact .inr h)
theorem afZ {i:Nat} {x:AV} {p:Rt} (h:p∈aV (fE i x)):p∈aV x\/p=.s i\/∃ j,p=.sc i j:=by
 cases x<;>simp only[fE] at h
 case own k xs=>simp[aV] at h; exact .inr (.inl h)
 case agg cs=>
  simp only[aV] at h ⊢;rcases Gi h with h|h
  ·exact .inl h
  ·exact .inr (.inr h)
 all_goals exact .inl h
def IA (V:Rt->Prop) (env:Env) (l:List Nat):Prop:=∀i∈l,(∀p∈aV (get env i),¬V p)/\¬ V (.s i)/\∀ j,¬V (.sc i j)
theorem IA.left {env:Env} {l m:List Nat} (h:IA V env (l++m)):IA V env l:=fun i hi=>h i (by simp[hi])
theorem IA.right {env:Env} {l m:List Nat} (h:IA V env (l++m)):IA V env m:=fun i hi=>h i (by simp[hi])
theorem l6 {env:Env} {x:E} (hk:kE x=true) (h:IA V env x.slot):Sl V (bq c env x):=by
 intro p hp;cases x with
 |t i=>
   simp only[bq] at hp;obtain⟨h1,h2,h3⟩:=h i (by simp[E.slot]);rcases afZ hp with e|e|⟨j,e⟩
   ·exact h1 p e
   ·subst e; exact h2
   ·subst e; exact h3 j
 |k x=>simp only[bq] at hp; simp only[kE,fN] at hk; rw[hk] at hp; simp at hp
 |g i=>simp[bq,aV] at hp
theorem Lp {env:Env}:∀{xs:List E},kEs xs=true->IA V env (qa xs)->∀p∈dz (dK c env xs),¬V p
 |[],_,_,p,hp=>by simp[dK,dz] at hp
 |x::r,hk,h,p,hp=>by
   simp only[kEs,ae] at hk;simp only[qa] at h;simp only[dK,dz,aI] at hp;rcases hp with hp|hp
   ·exact l6 hk.1 h.left p hp
   ·exact Lp hk.2 h.right p hp
theorem Sl.cells {x:AV} (h:Sl V x):∀d∈x.cells,Sl V d:=by
 intro d hd p hp;by_cases ha:∃cs,x=.agg cs
 ·obtain⟨cs,rfl⟩:=ha;exact h p (by simp only[aV]; exact lI.2 ⟨d,hd,hp⟩)
 ·have:x.cells=[x]:=by cases x<;>first|rfl|exact absurd ⟨_,rfl⟩ ha
  rw[this] at hd;simp at hd;subst hd;exact h p hp
theorem VK {env:Env}:∀{ps:List (Nat × Nat × E)} {zs cs:List AV},kPs ps=true->IA V env (tQ ps)->(∀d∈zs,Sl V d)->tc c env zs ps=some cs->∀d∈cs,Sl V d
 |[],zs,cs,_,_,hz,hf=>by simp[tc] at hf; subst hf; exact hz
 |(o,n,x)::r,zs,cs,hk,h,hz,hf=>by
   simp only[kPs,ae] at hk;simp only[tQ] at h;simp only[tc] at hf;split at hf
   case isFalse=>cases hf
   refine VK hk.2 h.right (fun d hd=>?_) hf;unfold kj at hd;simp only[aI] at hd;rcases hd with (hd|hd)|hd
   ·exact hz d (du hd)
   ·exact (l6 hk.1 h.left).cells d hd
   ·exact hz d (dv hd)
theorem ak2 {ag:Option Nat} {cs:List AV} {v:AV} (h:∀d∈cs,Sl V d) (hv:FO ag cs=some v):Sl V v:=by
 unfold FO at hv;split at hv
 ·split at hv
  ·simp at hv; subst hv;intro p hp;simp only[aV] at hp;obtain⟨d,hd,hp⟩:=lI.1 hp;exact h d (du hd) p hp
  ·cases hv
 ·exact h v (List.mem_of_mem_head? hv)
theorem W9 {ag:Option Nat} {cs:List AV} {v:AV} (h:∀d∈cs,Sl V d) (hv:QY ag cs=some v):Sl V v:=by
 unfold QY at hv;split at hv
 ·rename_i u hu;split at hv
  ·cases hv
  ·simp at hv; subst hv; exact ak2 h hu
 ·cases hv
theorem Sl.nil {v:AV} (h:aV v=[]):Sl V v:=fun p hp=>by rw[h] at hp; simp at hp
theorem ahd {op:BinOp} {x y v:AV} (h:tq op x y=some v):aV v=[]:=by
 rcases acx h with⟨_,_,⟨_,_,rfl⟩|⟨_,rfl⟩⟩|⟨_,_,_,rfl⟩<;>rfl
theorem ahx {op:UnOp} {x v:AV} (h:WM op x=some v):aV v=[]:=by
 unfold WM at h;split at h<;>simp at h<;>(subst h; rfl)
theorem Ul {mx:Bool}:∀{r:List AV} {k:IntKind} {a:Int} {v:AV},Dk mx (.int k a) r=some v->aV v=[]
 |[],k,a,v,h=>by simp[Dk] at h; subst h; rfl
 |y::r,k,a,v,h=>by
   cases y<;>simp only[Dk] at h<;>try (cases h; done)
   exact Ul h
theorem Um {mx:Bool} {l:List AV} {v:AV} (h:BO mx l=some v):aV v=[]:=by
 unfold BO at h;split at h
 ·exact Ul h
 ·cases h
theorem alN {env:Env} {kd:Kd} {v:AV} (hv:Xm c env kd=some v) (hk:B7 kd=true) (h:IA V env kd.reads):Sl V v:=by
 cases kd<;>simp only[Xm] at hv<;>simp only[B7,ae] at hk<;>simp only[Kd.reads] at h
 case mv x=>simp at hv; subst hv; exact l6 hk h
 case pick t a b=>
  split at hv
  ·simp at hv; subst hv;split
   ·exact l6 hk.2.1 h.right.left
   ·exact l6 hk.2.2 h.right.right
  ·cases hv
 case build zs ps=>
  split at hv
  ·rename_i cs hf;simp at hv; subst hv
   have hz:∀d∈zs,Sl V d:=fun d hd p hp=>by
    have:=lI.2 ⟨d,hd,hp⟩;rw[fN.1 hk.1] at this;simp at this
   intro p hp;simp only[aV] at hp;obtain⟨d,hd,hp⟩:=lI.1 hp;exact VK hk.2 h hz hf d hd p hp
  ·cases hv
 case pD x=>
  have ho:=l6 (c:=c) hk h;split at hv
  ·simp at hv; subst hv; exact .nil rfl
  ·simp at hv; subst hv; exact .nil rfl
  ·rename_i e;simp at hv; subst hv;rw[e] at ho; exact ho
  ·cases hv
 case bin=>exact .nil (ahd hv)
 case eq=>split at hv<;>simp at hv; subst hv; exact .nil rfl
 case un=>exact .nil (ahx hv)
 case SH=>split at hv<;>simp at hv; subst hv; exact .nil rfl
 case Sy fn a b=>
  split at hv
  ·cases hv
  ·simp at hv; subst hv;intro p hp;simp only[aV,aI] at hp;rcases hp with hp|hp
   ·exact Lp hk.1 h.left p hp
   ·exact Lp hk.2 h.right p hp
 case Io k x lo hi=>
  have ho:=l6 (c:=c) hk.1 h.left;split at hv
  case h_2=>cases hv
  split at hv
  case h_2=>cases hv
  split at hv
  case h_2=>cases hv
  split at hv
  ·split at hv<;>simp at hv; subst hv; exact .nil rfl
  ·split at hv<;>simp at hv; subst hv; exact .nil rfl
  ·rename_i e;rw[e] at ho;split at hv<;>simp at hv; subst hv
   intro p hp; exact ho p (by simpa[aV] using hp)
  ·split at hv<;>simp at hv; subst hv; exact .nil rfl
  ·cases hv
 case Of n x hi=>
  cases hi with
  |some y=>simp at hv
  |none=>
  (repeat' split at hv)<;>simp at hv
  obtain⟨_,rfl⟩:=hv;exact .nil rfl
 case vL off x=>
  have ho:=l6 (c:=c) hk h;split at hv
  ·simp at hv; subst hv; exact .nil rfl
  ·simp at hv; subst hv; exact .nil rfl
  ·rename_i e;rw[e] at ho;simp at hv; subst hv;intro p hp; exact ho p (by simpa[aV] using hp)
  ·cases hv
 case fld off ag x=>
  have ho:=l6 (c:=c) hk h;split at hv
  ·rename_i cs e;rw[e] at ho;exact W9 (fun d hd p hp=>ho p (by simp only[aV]; exact lI.2 ⟨d,dv hd,hp⟩)) hv
  ·cases hv
 case ti k x i=>
  have ho:=l6 (c:=c) hk.1 h.left;split at hv
  ·(repeat' split at hv)<;>simp at hv; subst hv; exact .nil rfl
  ·rename_i e;rw[e] at ho
   (repeat' split at hv)<;>simp at hv; subst hv
   intro p hp; exact ho p (by simpa[aV] using hp)
  ·(repeat' split at hv)<;>simp at hv; subst hv; exact .nil rfl
  ·cases hv
 case wC n k x i=>
  have ho:=l6 (c:=c) hk.1 h.left;split at hv
  case h_2=>cases hv
  split at hv
  ·simp at hv; subst hv; exact .nil rfl
  ·simp at hv; subst hv; exact .nil rfl
  ·rename_i e;rw[e] at ho;simp at hv; subst hv;intro p hp; exact ho p (by simpa[aV] using hp)
  ·cases hv
 case ix n k ag x i=>
  have ho:=l6 (c:=c) hk.1 h.left;split at hv
  case h_2=>cases hv
  split at hv
  ·rename_i cs e;rw[e] at ho;exact W9 (fun d hd p hp=>ho p (by simp only[aV]; exact lI.2 ⟨d,dv hd,hp⟩)) hv
  ·cases hv
 case ixs tab i=>(repeat' split at hv)<;>simp at hv; subst hv; exact .nil rfl
 case ext i x=>
  have ho:=l6 (c:=c) hk h;split at hv
  ·rename_i vs e;rw[e] at ho;split at hv
   ·rename_i u hu;split at hv<;>simp at hv; subst hv
    intro p hp; exact ho p (by simp only[aV]; exact lI.2 ⟨u,bp hu,hp⟩)
   ·cases hv
  ·cases hv
 case len=>split at hv<;>simp at hv; subst hv; exact .nil rfl
 case min=>exact .nil (Um hv)
 case max=>exact .nil (Um hv)
 all_goals (cases hv; done)
mutual
theorem Qp:∀x,clean x=true->aV x=[]
 |.dX _ _ _ _,h=>by simp[clean] at h
 |.fG _ _ _ _,h=>by simp[clean] at h
 |.agg cs,h=>by simp only[clean] at h; simp only[aV]; exact DH cs h
 |.dR cs,h=>by simp only[clean] at h; simp only[aV]; exact DH cs h
 |.func _ _ _,h=>by simp[clean] at h
 |.any,_=>rfl|.undef,_=>rfl|.fY,_=>rfl|.gh,_=>rfl|.dC,_=>rfl
 |.int _ _,_=>rfl|.bool _,_=>rfl|.str _,_=>rfl|.list _ _,_=>rfl|.dG _,_=>rfl|.ptr _ _,_=>rfl|.sl _ _ _ _,_=>rfl|.own _ _,_=>rfl
theorem DH:∀xs,iB xs=true->dz xs=[]
 |[],_=>rfl
 |x::r,h=>by simp only[iB,ae] at h; simp only[dz,Qp x h.1,DH r h.2,List.append_nil]
end
theorem ado {s s1:St} {kd:Kd} {v:AV} {f:Fq} (h:dN c call kd s=some (v,s1,f)):aV v=[]\/∃ sl bs,f=.wr sl bs\/f=.all:=by
 unfold dN at h;split at h
 ·rename_i r hi;subst h;obtain⟨sl,bs,e⟩:=E9 hi;exact .inr ⟨sl,bs,e⟩
 split at h
 ·rename_i r hi;subst h;obtain⟨_,_,_,_,_,_,_,_,_,_,_,_,_,_,_,hr,_,_⟩:=Ai hi;exact .inl (Ra _ hr.1)
 unfold gP at h;split at h
 ·rename_i r hi;subst h;exact .inr ⟨[],none,.inr (Be hi).1⟩
 rcases jX h with h|h
 case inr=>exact .inl (A6 h).2
 unfold eT at h;split at h
 ·cases h
 split at h
 ·cases h
 split at h
 ·split at h
  ·cases h
  split at h
  case h_2=>cases h
  split at h
  case isFalse=>cases h
  rename_i hr;simp at h;obtain⟨rfl,_,_⟩:=h;simp only[TY,ae] at hr;exact .inl (Qp _ hr.1)
 ·split at h
  ·cases h
  split at h
  case isFalse=>cases h
  split at h
  ·split at h
   case isFalse=>cases h
   split at h
   case h_2=>cases h
   split at h
   case isFalse=>cases h
   rename_i hr;simp only[af,aF] at h;simp only[ae] at hr;obtain⟨rfl,_,_⟩:=h;exact .inl (fN.1 hr.1.1)
  ·split at h
   case isFalse=>cases h
   split at h
   case h_2=>cases h
   split at h
   case isFalse=>cases h
   rename_i hr;simp at h;obtain⟨rfl,_,_⟩:=h;exact .inl (Ra _ hr)
theorem Ux (f:Nat->Rt):∀(j:Nat) (cs:List AV),bS cs=false->fj f j cs=cs
 |_,[],_=>rfl
 |j,x::r,h=>by
   cases x with
   |own k xs=>simp[bS] at h
   |_=>simp only[bS] at h; simp only[fj,Ux f (j+1) r h]
theorem af1 {x v:AV} {ps:List Rt} {b j:Nat} (h:Al x v ps=.rc b j):∃k o l,x=.ptr b j/\v=.dX k (.c b j) o l:=by
 unfold Al at h;split at h
 ·split at h
  ·rename_i hc;obtain⟨rfl,rfl⟩:=hc;cases h;exact⟨_,_,_,rfl,rfl⟩
  ·cases h
 ·cases h
theorem alP {s s1:St} {kd:Kd} {v:AV} {f:Fq} (hv:fD c call s kd=some (v,s1,f)) (hf:calm f=true) (hk:B7 kd=true) (h:IA V s.env kd.reads)
  (hb:∀ps,f=.rd ps->∀b,Rt.c b 0∈ps->∀cs,aH s.H b=some cs->(∀p∈dz cs,¬V p)/\(bS cs=true->∀j,¬V (.c b j)))
  (H7:∀b j,f=.rc b j->∀cs c,aH s.H b=some cs->cs[j]?=some c->(∀p∈aV c,¬V p)/\(∀k xs,c=.own k xs->¬V (.c b j))):Sl V v:=by
 have pure:∀{kd:Kd},B7 kd=true->IA V s.env kd.reads->(match Xm c s.env kd with
   |some v=>some (v,s,Fq.no)
   |none=>none)=some (v,s1,f)->Sl V v:=by
  intro kd hk h h2;split at h2
  case h_2=>cases h2
  rename_i u hu;simp at h2;obtain⟨rfl,_,_⟩:=h2;exact alN hu hk h
 have akK:∀{kd:Kd},dN c call kd s=some (v,s1,f)->Sl V v:=by
  intro kd h2;rcases ado h2 with e|⟨sl,bs,e|e⟩
  ·exact .nil e
  ·subst e; simp[calm] at hf
  ·subst e; simp[calm] at hf
 cases kd
 case call=>simp only[fD] at hv; exact akK hv
 case jM=>simp only[fD] at hv; exact akK hv
 case new=>simp only[fD] at hv; simp at hv; obtain⟨rfl,_,_⟩:=hv; exact .nil rfl
 case box=>simp only[fD] at hv; split at hv<;>simp at hv; obtain⟨rfl,_,_⟩:=hv; exact .nil rfl
 case dw=>simp only[fD] at hv; (repeat' split at hv)<;>simp at hv<;>(obtain⟨rfl,_,_⟩:=hv; exact .nil rfl)
 case Rr=>simp only[fD] at hv; (repeat' split at hv)<;>simp at hv<;>(obtain⟨rfl,_,_⟩:=hv; exact .nil rfl)
 case Rg=>simp only[fD] at hv; (repeat' split at hv)<;>simp at hv<;>(obtain⟨rfl,_,_⟩:=hv; exact .nil rfl)
 case app=>simp only[fD] at hv; (repeat' split at hv)<;>simp at hv<;>(obtain⟨rfl,_,_⟩:=hv; exact .nil rfl)
 case st=>simp only[fD] at hv; (repeat' split at hv)<;>simp at hv<;>(obtain⟨rfl,_,_⟩:=hv; exact .nil rfl)
 case copy=>simp only[fD] at hv; (repeat' split at hv)<;>simp at hv<;>(obtain⟨rfl,_,_⟩:=hv; exact .nil rfl)
 case Of n x hi=>
  simp only[fD] at hv;split at hv
  ·(repeat' split at hv)<;>simp at hv<;>(obtain⟨rfl,_,_⟩:=hv; exact .nil rfl)
  ·exact pure hk h hv
 case ld ag x=>
  simp only[fD] at hv;split at hv
  case h_2=>cases hv
  rename_i u ps hp;split at hv
  case isFalse=>cases hv
  rename_i hl;simp at hv;obtain⟨rfl,rfl,hlab⟩:=hv;by_cases hy:∃b off k o l,bq c s.env x=.ptr b off/\u=.dX k (.c b off) o l
  ·obtain⟨b,off,k,o,l,e,rfl⟩:=hy;rw[e] at hp hlab;have hbc':=H7 b off (by rw[<-hlab]; simp[Al]);simp only[Da] at hp;split at hp
   case h_2=>cases hp
   rename_i cs dQ;split at hp
   case h_2=>cases hp
   rename_i u' hu;simp at hp;obtain⟨rfl,_⟩:=hp
   have hz:((fj (.c b) 0 cs).drop off)[0]?=some (.dX k (.c b off) o l):=by
    unfold QY FO at hu;cases ag with
    |some n=>simp only at hu; (repeat' split at hu)<;>simp_all
    |none=>
      simp only at hu;rw[<-yX]
      (repeat' split at hu)<;>simp_all
   rw[bk,Nat.add_zero] at hz
   have hg:∀(cs:List AV) (j i:Nat),(fj (.c b) j cs)[i]?=some (.dX k (.c b off) o l)->∃c0,cs[i]?=some c0/\((∃k xs,c0=.own k xs)\/c0=.dX k (.c b off) o l):=by
    intro cs
    induction cs with
    |nil=>intro j i h; simp[fj] at h
    |cons d r ih=>
      intro j i h;cases i with
      |zero=>
        refine⟨d,rfl,?_⟩
        cases d<;>first
         |exact .inl ⟨_,_,rfl⟩
         |(simp[fj] at h; done)
         |(simp[fj] at h; right; simp[h])
      |succ i=>
        obtain⟨c0,h1,h2⟩:=ih (j+1) i (by cases d<;>simpa[fj] using h);exact⟨c0,by simpa using h1,h2⟩
   obtain⟨c0,h1,h2⟩:=hg cs 0 off hz;obtain⟨q1,q2⟩:=hbc' cs c0 dQ h1;intro p hp;simp[aV] at hp;subst hp;rcases h2 with h2|h2
   ·obtain⟨k0,xs0,e0⟩:=h2; exact q2 k0 xs0 e0
   ·subst h2; exact q1 _ (by simp[aV])
  have hlab:f=.rd ps:=by
   rw[<-hlab];rcases Ak (bq c s.env x) u ps with e|⟨b,j,e⟩
   ·exact e
   ·obtain⟨k,o,l,e1,e2⟩:=af1 e;exact absurd ⟨b,j,k,o,l,e1,e2⟩ hy
  subst hlab;by_cases hx:∃b off,bq c s.env x=.ptr b off
  ·obtain⟨b,off,e⟩:=hx;rw[e] at hp;simp only[Da] at hp;split at hp
   case h_2=>cases hp
   rename_i cs dQ;split at hp
   case h_2=>cases hp
   rename_i u' hu;simp at hp;obtain⟨rfl,rfl⟩:=hp;by_cases hz:aV u'=[]
   ·exact .nil hz
   obtain⟨b1,b2⟩:=hb _ rfl b (by simp[hz]) cs dQ;refine W9 (fun d hd p hp=>?_) hu;have:=lI.2 ⟨d,dv hd,hp⟩;cases ho:bS cs with
   |false=>rw[Ux _ _ _ ho] at this; exact b1 p this
   |true=>
     rcases Gi this with h3|⟨i,h3⟩
     ·exact b1 p h3
     ·subst h3; exact b2 ho i
  ·refine .nil ?_;unfold ldOK at hl;split at hl
   ·rename_i e; exact absurd ⟨_,_,e⟩ hx
   ·exact fN.1 hl
 case Ga=>simp only[fD] at hv; simp at hv; obtain⟨rfl,_,_⟩:=hv; exact .nil rfl
 case BP K ok z x k=>
  obtain⟨b,es,r,_,_,hp,e3,hz,rfl,_⟩:=afR hv;exact .nil (Ra _ (afQ e3 hp.1 hz))
 case Df K x k y=>
  obtain⟨b,es,r,_,_,_,_,rfl,_⟩:=afJ hv;exact .nil rfl
 all_goals
  simp only[fD] at hv;exact pure hk h hv
end
end Go.Bm

/- What single operations are worth: regions that draw their order are sound. -/
namespace Go.Bm
open Go.Am
section
variable {P:Program} {c:eS} {call:Nat->List AV->Heap->Option (AV × Heap)} {V:Rt->Prop}
theorem eC.own {s t:St} (h:eC s t) (p:Rt):aB t p=aB s p:=by
 cases p with
 |s i=>simp only[aB,at_,h.1 i]
 |sc i j=>simp only[aB,at_,h.1 i]
 |c b j=>simp only[aB,at_,h.2]
theorem Seen.of_same {s s0 t:St} {ps:List Rt} (e:eC s s0) (h:Seen ps s t):Seen ps s0 t:=fun p hp=>⟨by rw[(h p hp).1,e.own],fun b l hb=>by rw[(h p hp).2 b l hb,e.2]⟩
theorem uP.of_same {s s0 t:St} {b j:Nat} (e:eC s s0) (h:uP b j s t):uP b j s0 t:=fun cs hc=>h cs (by rw[e.2]; exact hc)
theorem alQ {s s1:St} {kd:Kd} {v:AV} {n:Nat} (h:fD c call s kd=some (v,s1,.al n)):∃z,s1=⟨s.env,s.H++[z]⟩:=by
 have nc:∀{kd:Kd},dN c call kd s≠some (v,s1,.al n):=by
  intro kd h;unfold dN at h;split at h
  ·rename_i r hi;subst h;obtain⟨sl,bs,e|e⟩:=E9 hi<;>cases e
  split at h
  ·rename_i r hi;subst h;obtain⟨b,e⟩:=IY hi;cases e
  unfold gP at h;split at h
  ·rename_i r hi;subst h;obtain⟨e,_⟩:=Be hi;cases e
  replace h:=(jX h).resolve_right fun h=>by obtain⟨e,_⟩:=A6 h; cases e
  unfold eT at h
  (repeat' split at h)<;>simp[Bs] at h
  all_goals (obtain⟨_,_,h⟩:=h; revert h; split<;>simp[Bs])
 have ns:∀{s s':St} {k:Nat} {a v:AV} {f:Fq},Wo s k a v=some (s',f)->f≠.al n:=by
  intro s s' k a v f h e;have:=WQ h;rw[e] at this;simp[calm] at this
 cases kd<;>simp only[fD] at h
 case new=>simp at h; exact⟨_,h.2.1.symm⟩
 case Ga=>simp at h; exact⟨_,h.2.1.symm⟩
 case box=>split at h<;>simp at h; exact⟨_,h.2.1.symm⟩
 case call=>exact absurd h nc
 case jM=>exact absurd h nc
 case st=>
  exfalso;split at h
  ·split at h
   case h_2=>cases h
   rename_i hh;simp only[af,aF] at h;obtain⟨_,_,h5⟩:=h;split at h5
   ·exact ns hh h5
   ·cases h5
  ·split at h
   case h_2=>cases h
   rename_i hh;simp only[af,aF] at h;exact ns hh h.2.2
 case ld=>
  exfalso;split at h
  case h_2=>cases h
  split at h
  case isFalse=>cases h
  simp only[af,aF] at h;obtain⟨_,_,h5⟩:=h;rcases Ak _ _ _ with e|⟨b,j,e⟩<;>rw[e] at h5<;>cases h5
 case Rr=>
  split at h
  case h_2=>cases h
  split at h
  case isFalse=>cases h
  split at h
  ·simp at h; exact⟨_,h.2.1.symm⟩
  ·simp at h
 case dw=>
  exfalso
  (repeat' split at h)<;>simp[Bs] at h
  all_goals (obtain⟨_,_,h⟩:=h; revert h; split<;>simp[Bs])
 case copy=>
  exfalso
  (repeat' split at h)<;>simp at h
  obtain⟨_,_,h5⟩:=h;rcases AA _ _ with e|⟨_,_,_,_,e⟩<;>rw[e] at h5<;>cases h5
 all_goals
  exfalso
  (repeat' split at h)<;>simp at h
theorem PD {i:Nat} {x:AV} {b:Bool} (h:fE i x=.bool b):x=.bool b:=by
 cases x<;>simp[fE] at h<;>simp[h]
theorem XO {i:Nat} {x:AV} (h:fE i x=.undef):x=.undef:=by
 cases x<;>simp[fE] at h<;>rfl
theorem ajC:tt c call:=by
 intro s q v s1 f ⟨hk,s0,t1,e0,he,e1⟩ hc
 have op:fD c call s0 q.kd=some (v,t1,f)->(∀t:St,(∀i∈q.reads,fE i (get t.env i)=fE i (get s.env i))->Ig c call t q=fD c call t q.kd)->∃X,YY c call s q v s1 f X:=by
  intro h Bq;obtain⟨T,k1,k2,k3⟩:=afk h hc;have hr:∀i∈q.kd.reads,i∈q.reads:=fun i hi=>by simp[O.reads,hi]
  refine⟨T,⟨e1.symm.trans ⟨fun i=>by rw[k1]; exact (e0.1 i).symm,by rw[k1]; show s0.H++T=s.H++T; rw[e0.2]⟩,?_,fun t h1 h2 h3=>?_,fun V h1 h2 h2c=>?_⟩⟩
  ·rcases k2 with e|⟨z,e,e2⟩
   ·by_cases SG:∃n,f=.al n
    ·obtain⟨n,rfl⟩:=SG;obtain⟨z,hz⟩:=alQ h;rw[k1,e] at hz;simp at hz
    ·exact .inl ⟨e,fun n hn=>SG ⟨n,hn⟩⟩
   ·exact .inr ⟨z,e,by rw[e0.2]; exact e2⟩
  ·refine⟨hk,t,_,eC.rfl',?_,eC.rfl'⟩;rw[Bq t h1];exact k3 t (fun i hi=>by rw[h1 i (hr i hi),e0.1]) ⟨fun ps yU=>(h2.1 ps yU).of_same e0,fun b j hf=>(h2.2 b j hf).of_same e0⟩ h3
  ·exact alP h hc hk (fun i hi=>by rw[<-e0.1]; exact h1 i (hr i hi)) (fun ps yU b hp cs hb=>h2 ps yU b hp cs (by rw[e0.2]; exact hb)) fun b j hf cs c0 hb Mn=>h2c b j hf cs c0 (by rw[e0.2]; exact hb) Mn
 have un:f=.no->v=.undef->t1=s0->(∀t:St,(∀i∈q.reads,fE i (get t.env i)=fE i (get s.env i))->Ig c call t q=some (.undef,t,.no))->∃X,YY c call s q v s1 f X:=by
  intro hf hv ht Bq;subst hf hv ht;refine⟨[],⟨e1.symm.trans ⟨fun i=>(e0.1 i).symm,by show t1.H=s.H++[]; rw[e0.2]; simp⟩,.inl ⟨rfl,fun n h=>by cases h⟩,fun t h1 _ _=>⟨hk,t,t,eC.rfl',Bq t h1,⟨fun i=>rfl,by simp⟩⟩,fun V _ _ _ p hp=>by simp[aV] at hp⟩⟩
 unfold Ig at he;cases hg:q.guard with
 |none=>
   rw[hg] at he;exact op he fun t _=>by unfold Ig; rw[hg]
 |some gp=>
   obtain⟨g,want⟩:=gp;rw[hg] at he;simp only at he;have NZ:g∈q.reads:=by simp[O.reads,hg]
   split at he
   ·rename_i b hb;split at he
    ·rename_i X9;refine op he fun t h1=>?_;unfold Ig;rw[hg];have jJ:get t.env g=.bool b:=PD (by rw[h1 g NZ,e0.1 g,hb]; rfl);simp only[jJ,X9,if_true]
    ·rename_i X9;simp only[af,aF] at he;refine un he.2.2.symm he.1.symm he.2.1.symm fun t h1=>?_;unfold Ig;rw[hg];have jJ:get t.env g=.bool b:=PD (by rw[h1 g NZ,e0.1 g,hb]; rfl);simp only[jJ,X9,if_false]
   ·rename_i hb;simp only[af,aF] at he;refine un he.2.2.symm he.1.symm he.2.1.symm fun t h1=>?_;unfold Ig;rw[hg];have jJ:get t.env g=.undef:=XO (by rw[h1 g NZ,e0.1 g,hb]; rfl);simp only[jJ]
   ·cases he

/-! Operations that write a few places -/
mutual
theorem EX {g:AV->AV}:∀x,(∀k p o l,p∈aV x->g (.dX k p o l)=.dX k p o l/\g (.fG k p o l)=.fG k p o l)->cW g x=x
 |.dX k p o l,h=>by simp only[cW]; exact (h k p o l (by simp[aV])).1
 |.fG k p o l,h=>by simp only[cW]; exact (h k p o l (by simp[aV])).2
 |.agg cs,h=>by simp only[cW]; rw[qq cs (by simpa only[aV] using h)]
 |.dR cs,h=>by simp only[cW]; rw[qq cs (by simpa only[aV] using h)]
 |.func f a b,h=>by
   simp only[aV,aI] at h;simp only[cW]; rw[qq a fun k p o l hp=>h k p o l (.inl hp),qq b fun k p o l hp=>h k p o l (.inr hp)]
 |.any,_=>rfl|.undef,_=>rfl|.fY,_=>rfl|.gh,_=>rfl|.dC,_=>rfl
 |.int _ _,_=>rfl|.bool _,_=>rfl|.str _,_=>rfl|.list _ _,_=>rfl|.dG _,_=>rfl|.ptr _ _,_=>rfl|.sl _ _ _ _,_=>rfl|.own _ _,_=>rfl
theorem qq {g:AV->AV}:∀xs,(∀k p o l,p∈dz xs->g (.dX k p o l)=.dX k p o l/\g (.fG k p o l)=.fG k p o l)->dp g xs=xs
 |[],_=>rfl
 |x::r,h=>by
   simp only[dz,aI] at h;simp only[dp]; rw[EX x fun k p o l hp=>h k p o l (.inl hp),qq r fun k p o l hp=>h k p o l (.inr hp)]
end
theorem Gg {f:Nat->Rt}:∀{cs:List AV} {j l k:Nat} {xs xs':List AV},cs[l]?=some (.own k xs)->xs'.length=xs.length->fj f j (cs.set l (.own k xs'))=fj f j cs
 |[],j,l,k,xs,xs',h,_=>by simp at h
 |x::r,j,0,k,xs,xs',h,hl=>by
   simp at h;subst h;simp only[List.set_cons_zero,fj,hl]
 |x::r,j,l+1,k,xs,xs',h,hl=>by
   have ih:=Gg (f:=f) (j:=j+1) (by simpa using h) hl;rw[List.set_cons_succ];cases x<;>simp only[fj,ih]
theorem WV {s:St} {p:Rt} {k:Nat} {xs xs':List AV} (h:aB s p=some (k,xs)) (hl:xs'.length=xs.length) (i:Nat):fE i (get (setAt s p (.own k xs')).env i)=fE i (get s.env i):=by
 cases p with
 |s j=>
   simp only[setAt,bQ];by_cases e:i=j
   ·subst e;rw[if_pos rfl];simp only[aB,at_] at h;split at h
    ·rename_i k2 xs2 e2;simp at h;obtain⟨rfl,rfl⟩:=h;simp at e2;rw[e2];simp only[fE,hl]
    ·cases h
   ·rw[if_neg e]
 |sc j l=>
   simp only[aB,at_] at h;simp only[setAt];split
   ·rename_i cs dQ;rw[dQ] at h;simp only[bQ];by_cases e:i=j
    ·subst e;rw[if_pos rfl,dQ];simp only at h;split at h
     ·rename_i k2 xs2 e2;simp at h;obtain⟨rfl,rfl⟩:=h;simp only[fE,Gg e2 hl]
     ·cases h
    ·rw[if_neg e]
   ·rfl
 |c b j=>
   simp only[setAt];split<;>rfl
theorem Bg {i:Nat}:∀{l:List Nat},i+oD∈marks l ↔ i∈l
 |[]=>by simp[marks]
 |j::r=>by simp[marks,Bg (l:=r)]
theorem gM {s:St} {p:Rt} {v:AV} {i:Nat} (h:i∉rootOf p):get (setAt s p v).env i=get s.env i:=by
 cases p with
 |s j=>simp only[rootOf,cX] at h; simp only[setAt,bQ,if_neg h]
 |sc j l=>
   simp only[rootOf,cX] at h;simp only[setAt];split
   ·simp only[bQ,if_neg h]
   ·rfl
 |c b j=>simp only[setAt]; split<;>rfl
theorem vS {s:St} {p:Rt} {v:AV} {b:Nat} (h:b∉nn p):aH (setAt s p v).H b=aH s.H b:=by
 cases p with
 |s j=>rfl
 |sc j l=>simp only[setAt]; split<;>rfl
 |c d j=>
   simp only[nn,cX] at h;simp only[setAt];split
   ·rw[dH,if_neg (fun e=>h e.1)]
   ·rfl
theorem Jn {s t:St} (h:eC s t) (p:Rt) (v:AV):eC (setAt s p v) (setAt t p v):=by
 cases p with
 |s j=>exact⟨fun i=>by simp only[setAt,bQ,h.1 i],h.2⟩
 |sc j l=>
   simp only[setAt];rw[h.1 j];split
   ·exact⟨fun i=>by simp only[bQ,h.1 i],h.2⟩
   ·exact h
 |c b j=>
   simp only[setAt];rw[h.2];split
   ·exact⟨h.1,rfl⟩
   ·exact h
theorem vR {s:St} {p:Rt} {v u:AV} {d:Nat} (h:d∉rootOf p):eC (setAt ⟨put s.env d u,s.H⟩ p v) ⟨put (setAt s p v).env d u,(setAt s p v).H⟩:=by
 cases p with
 |s j=>
   simp only[rootOf,cX] at h;refine⟨fun i=>?_,rfl⟩;simp only[setAt,bQ];by_cases e:i=j
   ·subst e;have:i≠d:=fun e=>h e.symm;simp[this]
   ·simp[e]
 |sc j l=>
   simp only[rootOf,cX] at h;have hj:j≠d:=fun e=>h e.symm;simp only[setAt,bQ,if_neg hj];split
   ·refine⟨fun i=>?_,rfl⟩;simp only[bQ];by_cases e:i=j
    ·subst e; simp[hj]
    ·simp[e]
   ·exact eC.rfl'
 |c b j=>
   simp only[setAt];split
   ·exact eC.rfl'
   ·exact eC.rfl'
theorem zY {s:St} {p:Rt} {y:Nat × List AV} (h:aB s p=some y):∀i∈rootOf p,bY (get s.env i)=true:=by
 intro i hi;obtain⟨k,xs⟩:=y;have h:=cD.1 h;cases p with
 |s j=>
   simp only[rootOf,cX] at hi; subst hi;simp only[at_,af] at h;rw[h]; rfl
 |sc j l=>
   simp only[rootOf,cX] at hi; subst hi;simp only[at_] at h;split at h
   ·rename_i cs hc;rw[hc];simp only[bY]
    have:∀{cs:List AV} {l:Nat},cs[l]?=some (.own k xs)->bS cs=true:=by
     intro cs
     induction cs with
     |nil=>intro l h; simp at h
     |cons x r ih=>
       intro l h;cases l with
       |zero=>simp at h; subst h; rfl
       |succ l=>simp at h; cases x<;>simp only[bS]<;>exact ih h
    exact this h
   ·cases h
 |c b j=>simp[rootOf] at hi
theorem qk {s:St} {p:Rt} {d:Nat} {u:AV} (h:d∉rootOf p):aB ⟨put s.env d u,s.H⟩ p=aB s p:=by
 cases p with
 |s j=>
   simp only[rootOf,cX] at h;have hj:j≠d:=fun e=>h e.symm;simp only[aB,at_,bQ,if_neg hj]
 |sc j l=>
   simp only[rootOf,cX] at h;have hj:j≠d:=fun e=>h e.symm;simp only[aB,at_,bQ,if_neg hj]
 |c b j=>rfl
structure yL (c:eS) (call:Nat->List AV->Heap->Option (AV × Heap)) (s:St) (kd:Kd) (v:AV) (s1:St) (sl:List Nat) (bs:Option (List Nat)) (V:Rt->Prop):Prop where
 env:∀i,i∉sl->i+oD∉sl->get s1.env i=get s.env i
 hd:∀i,i∉sl->fE i (get s1.env i)=fE i (get s.env i)
 keep:∀i,bY (get s.env i)=false->aV (get s.env i)=[]->get s1.env i=get s.env i
 heap:∀l,bs=some l->∀b,b∉l->aH s1.H b=aH s.H b
 v1:∀i,i∉sl->(∀p∈aV (get s.env i),¬V p)/\¬ V (.s i)/\∀ j,¬V (.sc i j)
 v2:∀l,bs=some l->∀b,b∉l->b+oD∉l->∀cs,aH s.H b=some cs->(∀p∈dz cs,¬V p)/\(bS cs=true->∀j,¬V (.c b j))
 go:∀d u,d∉kd.reads->d∉sl->d+oD∉sl->Sl V u->∃t0 t1 sl',eC t0 ⟨put s.env d u,s.H⟩/\fD c call t0 kd=some (v,t1,.wr sl' bs)/\(∀i∈sl',i∈sl)/\eC t1 ⟨put s1.env d u,s1.H⟩
structure YP (c:eS) (call:Nat->List AV->Heap->Option (AV × Heap)) (s:St) (kd:Kd) (v:AV) (s1:St) (sl:List Nat) (bs:Option (List Nat)) (V:Rt->Prop):Prop where
 env:∀i,i∉sl->i+oD∉sl->get s1.env i=get s.env i
 hd:∀i,i∉sl->fE i (get s1.env i)=fE i (get s.env i)
 keep:∀i,bY (get s.env i)=false->aV (get s.env i)=[]->get s1.env i=get s.env i
 heap:∀l,bs=some l->∀b,qe b l=false->aH s1.H b=aH s.H b
 cell:∀l,bs=some l->∀b j,b∉l->yJ b j∉l->uP b j s s1/\uP b j s1 s
 v1:∀i,i∉sl->(∀p∈aV (get s.env i),¬V p)/\¬ V (.s i)/\∀ j,¬V (.sc i j)
 v2:∀l,bs=some l->∀b,qe b l=false->b+oD∉l->∀cs,aH s.H b=some cs->(∀p∈dz cs,¬V p)/\(bS cs=true->∀j,¬V (.c b j))
 v3:∀l,bs=some l->∀b j,b∉l->b+oD∉l->yJ b j∉l->∀cs c,aH s.H b=some cs->cs[j]?=some c->(∀p∈aV c,¬V p)/\(∀k xs,c=.own k xs->¬V (.c b j))
 go:∀d u,d∉kd.reads->d∉sl->d+oD∉sl->Sl V u->∃t0 t1 sl',eC t0 ⟨put s.env d u,s.H⟩/\fD c call t0 kd=some (v,t1,.wr sl' bs)/\(∀i∈sl',i∈sl)/\eC t1 ⟨put s1.env d u,s1.H⟩
theorem Mp:∀{cs:List AV} {j k:Nat} {xs:List AV},cs[j]?=some (.own k xs)->bS cs=true
 |[],j,k,xs,h=>by simp at h
 |c::r,0,k,xs,h=>by simp at h; subst h; rfl
 |c::r,j+1,k,xs,h=>by
   have:=Mp (cs:=r) (j:=j) (by simpa using h);cases c<;>simp[bS,this]
theorem yL.up {s s1:St} {kd:Kd} {v:AV} {sl:List Nat} {bs:Option (List Nat)}:(∃V,yL c call s kd v s1 sl bs V)->∃V,YP c call s kd v s1 sl bs V:=by
 rintro⟨V,h⟩;refine⟨V,⟨h.env,h.hd,h.keep,fun l hl b hb=>h.heap l hl b (qA hb).1,fun l hl b j hb _=>⟨.of_eq (h.heap l hl b hb),.of_eq (h.heap l hl b hb).symm⟩,h.v1,fun l hl b hb=>h.v2 l hl b (qA hb).1,fun l hl b j h1 h2 _ cs c0 hb hc=>?_,h.go⟩⟩;obtain⟨a1,a2⟩:=h.v2 l hl b h1 h2 cs hb;exact⟨fun p hp=>a1 p (lI.2 ⟨c0,bp hc,hp⟩),fun k xs e=>a2 (Mp (e▸hc)) j⟩
theorem wL {f:Rt->Bool}:∀{l:List Rt},AH f l=true ↔ ∃p∈l,f p=true
 |[]=>by simp[AH]
 |p::r=>by simp[AH,wL (l:=r)]
theorem Nc {f:Rt->Bool}:∀{H:Heap} {b:Nat} {cs:List AV},Nd f H=false->aH H b=some cs->∀p∈dz cs,f p=false
 |[],b,cs,_,h=>by simp[aH] at h
 |none::r,b,cs,ha,h=>by
   cases b with
   |zero=>simp[aH] at h
   |succ b=>exact Nc (H:=r) (b:=b) (by simpa[Nd] using ha) (by simpa[aH] using h)
 |some ds::r,b,cs,ha,h=>by
   simp only[Nd,fi] at ha;cases b with
   |zero=>
     simp[aH] at h;subst h;intro p hp;cases hf:f p with
     |false=>rfl
     |true=>rw[wL.2 ⟨p,hp,hf⟩] at ha; simp at ha
   |succ b=>exact Nc (H:=r) (b:=b) ha.2 (by simpa[aH] using h)
theorem wF {p:Rt}:∀{l:List Rt},Ao p l=true ↔ p∈l
 |[]=>by simp[Ao]
 |q::r=>by rw[Ao,eE,decide_eq_true_eq,wF (l:=r),aO]; exact⟨fun h=>h.imp Eq.symm id,fun h=>h.imp Eq.symm id⟩
theorem qg {p:Rt}:∀{e:Env} {i:Nat},Ao p (aV (Am.get e i))=true\/(isRoot p i=true/\Am.get e i≠.any)->i∈oF p e
 |[],i,h=>by simp[Am.get,aV,Ao] at h
 |(j,v)::r,i,h=>by
   simp only[Am.get] at h;simp only[oF];by_cases e:i=j
   ·subst e;simp only[if_true] at h
    have:(Ao p (aV v)||isRoot p i)=true:=by
     rcases h with h|h
     ·simp[h]
     ·simp[h.1]
    rw[if_pos this]; simp
   ·rw[if_neg e] at h;have:=qg h;split
    ·simp[this]
    ·exact this
theorem FK {p:Rt}:∀{sn:List Nat} {e:Env} {i:Nat},i∈oF p (Rl sn e)->mem i sn=false/\(Ao p (aV (Am.get e i))=true\/isRoot p i=true)
 |sn,[],i,h=>by simp[Rl,oF] at h
 |sn,(j,v)::r,i,h=>by
   have rec_:∀{sn':List Nat},i∈oF p (Rl sn' r)->mem j sn'=true->mem i sn'=false/\(Ao p (aV (Am.get ((j,v)::r) i))=true\/isRoot p i=true):=by
    intro sn' h hj;obtain⟨h1,h2⟩:=FK h;have qF:i≠j:=fun e=>by rw[e,hj] at h1; cases h1
    exact⟨h1,by simp only[Am.get]; rw[if_neg qF]; exact h2⟩
   unfold Rl at h;by_cases hj:mem j sn=true
   ·rw[if_pos hj] at h;exact rec_ h hj
   ·rw[if_neg hj] at h;simp only[oF] at h
    have tail:i∈oF p (Rl (j::sn) r)->mem i sn=false/\(Ao p (aV (Am.get ((j,v)::r) i))=true\/isRoot p i=true):=fun h=>by
     obtain⟨h1,h2⟩:=rec_ h (by simp[mem]);unfold mem at h1;split at h1
     ·cases h1
     ·exact⟨h1,h2⟩
    split at h
    ·rename_i hc;rcases aO.1 h with e|h
     ·subst e;refine⟨by simpa using hj,?_⟩;simp only[Am.get,if_true];simpa using hc
     ·exact tail h
    ·exact tail h
theorem oG {p:Rt}:∀{H:Heap} {k b:Nat} {cs:List AV},aH H b=some cs->p∈dz cs->k+b∈u5 p k H
 |[],k,b,cs,h,_=>by simp[aH] at h
 |none::r,k,b,cs,h,hp=>by
   cases b with
   |zero=>simp[aH] at h
   |succ b=>
     have:=oG (H:=r) (k:=k+1) (b:=b) (by simpa[aH] using h) hp;simp only[u5]; rwa [show k+(b+1)=k+1+b by omega]
 |some ds::r,k,b,cs,h,hp=>by
   cases b with
   |zero=>
     simp[aH] at h;subst h;simp[u5,wF.2 hp]
   |succ b=>
     have:=oG (H:=r) (k:=k+1) (b:=b) (by simpa[aH] using h) hp;simp only[u5];rw[show k+(b+1)=k+1+b by omega];split
     ·simp[this]
     ·exact this
theorem vU:∀{e:Env} {i:Nat},de (aV (Am.get e i))=true->i∈dn e
 |[],i,h=>by simp[Am.get,aV,de] at h
 |(j,v)::r,i,h=>by
   simp only[Am.get] at h;simp only[dn];by_cases e:i=j
   ·subst e;simp only[if_true] at h;rw[if_pos h]; simp
   ·rw[if_neg e] at h;have:=vU h;split
    ·simp[this]
    ·exact this
theorem Oz:∀{sn:List Nat} {e:Env} {i:Nat},i∈dn (Rl sn e)->mem i sn=false/\de (aV (Am.get e i))=true
 |sn,[],i,h=>by simp[Rl,dn] at h
 |sn,(j,v)::r,i,h=>by
   have rec_:∀{sn':List Nat},i∈dn (Rl sn' r)->mem j sn'=true->mem i sn'=false/\de (aV (Am.get ((j,v)::r) i))=true:=by
    intro sn' h hj;obtain⟨h1,h2⟩:=Oz h;have qF:i≠j:=fun e=>by rw[e,hj] at h1; cases h1
    exact⟨h1,by simp only[Am.get]; rw[if_neg qF]; exact h2⟩
   unfold Rl at h;by_cases hj:mem j sn=true
   ·rw[if_pos hj] at h;exact rec_ h hj
   ·rw[if_neg hj] at h;simp only[dn] at h
    have tail:i∈dn (Rl (j::sn) r)->mem i sn=false/\de (aV (Am.get ((j,v)::r) i))=true:=fun h=>by
     obtain⟨h1,h2⟩:=rec_ h (by simp[mem]);unfold mem at h1;split at h1
     ·cases h1
     ·exact⟨h1,h2⟩
    split at h
    ·rename_i hc;rcases aO.1 h with e|h
     ·subst e;refine⟨by simpa using hj,?_⟩;simp only[Am.get,if_true];exact hc
     ·exact tail h
    ·exact tail h
theorem Gp:∀{l:List Rt},de l=true ↔ ∃p∈l,cN p=false
 |[]=>by simp[de]
 |p::r=>by cases p<;>simp[de,cN,Gp (l:=r)]
theorem Gn {l:List Rt} (h:de l=false):∀p∈l,cN p=true:=by
 intro p hp;cases hn:cN p with
 |true=>rfl
 |false=>rw[Gp.2 ⟨p,hp,hn⟩] at h; cases h
theorem rA (s:St) (i:Nat):get (Xt s).env i=get s.env i:=((tA s).1 i).symm
end
end Go.Bm

/- Every operation that writes a few places; regions that draw their order are sound. -/
namespace Go.Bm
open Go.Am
section
variable {P:Program} {c:eS} {call:Nat->List AV->Heap->Option (AV × Heap)} {V:Rt->Prop}
theorem fv {i:Nat} {l m:List Nat} (h:i∉l++m):i∉l/\i∉m:=by simpa using h
theorem vl {p:Rt} {i:Nat}:isRoot p i=true ↔ i∈rootOf p:=by
 cases p<;>simp[isRoot,rootOf,eq_comm]
theorem IF {x:AV} (h:∀p∈aV x,cN p=true):cW jD x=x:=EX x fun k p o l hp=>by
 have:=h p hp;cases p<;>simp[cN] at this<;>simp[jD]
theorem EN {l:List Nat}:∀{H H':Heap} {k:Nat} {r:List Nat},bX l k H H'=some r->∀b,k+b∉l->aH H' b=aH H b/\((k+b)+oD∉r->∀cs,aH H b=some cs->bS cs=false/\dz cs=[])
 |[],[],k,r,_,b,_=>⟨rfl,fun _ cs h=>by simp[aH] at h⟩
 |[],_::_,k,r,h,b,_=>by simp[bX] at h
 |_::_,[],k,r,h,b,_=>by simp[bX] at h
 |x::H,y::H',k,r,h,b,hb=>by
   unfold bX at h;split at h
   case h_2=>cases h
   rename_i r0 h0;cases b with
   |zero=>
     have hm:mem k l=false:=by
      cases hh:mem k l with
      |false=>rfl
      |true=>exact absurd (mem_iff.1 hh) (by simpa using hb)
     rw[hm] at h;simp only[bH,if_false] at h;split at h
     case isFalse=>cases h
     rename_i he;have e:=ajF he;subst e;refine⟨rfl,fun hr cs dQ=>?_⟩
     have hx:x=some cs:=by
      unfold aH at dQ;simp only[List.getElem?_cons_zero] at dQ;cases x with
      |none=>simp at dQ
      |some d=>simp at dQ; rw[dQ]
     subst hx;cases hc:eX (some cs) with
     |false=>
       rw[hc] at h;simp at h;subst h;exact absurd (by simp) hr
     |true=>
       simp only[eX,ae,bN] at hc;exact⟨hc.1,fN.1 hc.2⟩
   |succ b=>
     have ih:=EN h0 b (by rw[show k+1+b=k+(b+1) by omega]; exact hb);have e:∀z (G:Heap),aH (z::G) (b+1)=aH G b:=fun z G=>by simp[aH]
     rw[e,e];refine⟨ih.1,fun hr=>ih.2 fun hm=>hr ?_⟩;rw[show k+1+b=k+(b+1) by omega] at hm;split at h
     ·cases h; exact hm
     ·split at h
      ·simp at h;subst h;split
       ·exact hm
       ·exact List.mem_cons_of_mem _ hm
      ·cases h
theorem agL {p:Rt} {k:Nat} {xs:List AV} {x:AV} (h:p∉aV x):cW (fb p k xs) x=x:=EX x fun k' q o l hq=>by
 have:q≠p:=fun e=>h (e▸hq);constructor<;>simp[fb,this]
theorem ai1 {p:Rt} {k:Nat} {xs:List AV} {x:List AV} (h:p∉dz x):dp (fb p k xs) x=x:=qq x fun k' q o l hq=>by
 have:q≠p:=fun e=>h (e▸hq);constructor<;>simp[fb,this]
theorem adG {s:St} {p:Rt} {k:Nat} {xs:List AV} {kd:Kd} {v:AV} (hp:aB s p=some (k,xs))
  (Bq:∀t:St,(∀i∈kd.reads,get t.env i=get s.env i)->aB t p=some (k,xs)->fD c call t kd=some (v,setAt (cB (fb p k xs) t) p (.list k xs),.wr (oF p t.env) (some (nn p++u5 p 0 t.H)))) :
  ∃ V,yL c call s kd v (setAt (cB (fb p k xs) s) p (.list k xs)) (oF p s.env) (some (nn p++u5 p 0 s.H)) V:=by
 have Aq:=zY hp;have D6:∀i∈rootOf p,i∈oF p s.env:=fun i hi=>qg (.inr ⟨vl.2 hi,fun e=>by have:=Aq i hi; rw[e] at this; cases this⟩);have qo:∀{i:Nat},i∉oF p s.env->p∉aV (get s.env i)/\i∉rootOf p:=fun{i} hi=>⟨fun e=>hi (qg (.inl (wF.2 e))),fun e=>hi (D6 i e)⟩
 have MF:∀i,p∉aV (get s.env i)->i∉rootOf p->get (setAt (cB (fb p k xs) s) p (.list k xs)).env i=get s.env i:=fun i h1 h2=>by
  rw[gM h2];show get (l8 (fb p k xs) s.env) i=_;rw[dF,agL h1]
 have amF:∀b,b∉nn p++u5 p 0 s.H->aH (setAt (cB (fb p k xs) s) p (.list k xs)).H b=aH s.H b:=fun b hb=>by
  rw[vS fun hm=>hb (Y1 _ hm)];show aH (gK (fb p k xs) s.H) b=_;rw[fR];cases dQ:aH s.H b with
  |none=>rfl
  |some cs=>
    simp only[cG,af];refine ai1 fun hm=>hb ?_;have:=oG (k:=0) dQ hm;exact WD _ (by simpa using this)
 refine⟨fun q=>q=p,⟨fun i hi _=>?_,fun i hi=>?_,fun i h1 h2=>?_,fun l hl b hb=>?_,fun i hi=>⟨fun q hq e=>?_,fun e=>?_,fun j e=>?_⟩,fun l hl b hb xC cs dQ=>⟨fun q hq e=>?_,fun _ j e=>?_⟩,fun d u hd qG _ hu=>?_⟩⟩
 ·obtain⟨h1,h2⟩:=qo hi;exact MF i h1 h2
 ·obtain⟨h1,h2⟩:=qo hi;rw[MF i h1 h2]
 ·exact MF i (by rw[h2]; simp) fun hi=>by rw[Aq i hi] at h1; cases h1
 ·cases hl;exact amF b hb
 ·subst e;exact (qo hi).1 hq
 ·subst e;exact (qo hi).2 (by simp[rootOf])
 ·subst e;exact (qo hi).2 (by simp[rootOf])
 ·subst e;cases hl;have:=oG (k:=0) dQ hq;exact hb (WD _ (by simpa using this))
 ·subst e;cases hl;exact hb (Y1 _ (by simp[nn]))
 ·obtain⟨hd3,hd4⟩:=qo qG
  let t0:St:=Xt ⟨put s.env d u,s.H⟩
  have Mk:eC t0 ⟨put s.env d u,s.H⟩:=(tA _).symm;have hg:∀i,get t0.env i=if i=d then u else get s.env i:=fun i=>by rw[rA,bQ]
  have own:aB t0 p=aB s p:=by rw[<-Mk.own p]; exact qk hd4
  have NU:p∉aV u:=fun hm=>hu p hm rfl;refine⟨t0,setAt (cB (fb p k xs) t0) p (.list k xs),oF p t0.env,Mk,Bq t0 (fun i hi=>by rw[hg,if_neg]; intro e; subst e; exact hd hi) (own.trans hp),fun i hi=>?_,?_⟩
  ·obtain⟨_,h2⟩:=FK hi;have:get (put s.env d u) i=get t0.env i:=(rA ⟨put s.env d u,s.H⟩ i).symm;simp only[this,hg] at h2;rcases h2 with h2|h2
   ·split at h2
    ·exact absurd (wF.1 h2) NU
    ·exact qg (.inl h2)
   ·exact D6 i (vl.1 h2)
  ·have h5:eC (cB (fb p k xs) t0) ⟨put (cB (fb p k xs) s).env d u,(cB (fb p k xs) s).H⟩:=⟨fun i=>by
    show get (l8 (fb p k xs) t0.env) i=get (put (l8 (fb p k xs) s.env) d u) i;rw[dF,hg,bQ,dF];split
    ·exact agL NU
    ·rfl,rfl⟩
   exact (Jn h5 p (.list k xs)).trans (vR hd4)
theorem ahu {s s1:St} {kd:Kd} {v:AV} {sl:List Nat} {bs:Option (List Nat)} (jJ:∀t,fD c call t kd=dN c call kd t) (hi:sO c s kd=none) (hl:p7 c call s kd=none) (hmv:vE c call s kd=none) (h:eT c call kd s=some (v,s1,.wr sl bs)):∃V,yL c call s kd v s1 sl bs V:=by
 unfold eT at h;split at h
 ·cases h
 rename_i f args ha;split at h
 ·cases h
 rename_i md q hf;split at h
 ·rename_i hm;split at h
  ·cases h
  split at h
  case h_2=>cases h
  split at h
  case isFalse=>cases h
  simp only[af,aF] at h;obtain⟨_,_,h⟩:=h;split at h<;>cases h
 rename_i hm;split at h
 ·cases h
 rename_i f1 rE N6;split at h
 case isFalse=>cases h
 rename_i hff;split at h
 ·rename_i jI;split at h
  case isFalse=>cases h
  rename_i hp;split at h
  case h_2=>cases h
  rename_i r H' hc;split at h
  case isFalse=>cases h
  rename_i hr;simp only[af,aF] at h;obtain⟨rfl,rfl,h⟩:=h
  have he:dz args=[]:=by
   cases hb:dz args with
   |nil=>rfl
   |cons x y=>simp[hb] at h
  rw[he] at h N6 hp hc;simp only[eO] at N6 hp hc;simp at h;obtain⟨rfl,rfl⟩:=h
  have off:∀l,dB (dJ rE) (bX (dJ rE) 0 s.H H')=some l->∀b,b∉l->aH H' b=aH s.H b/\(b+oD∉l->∀cs,aH s.H b=some cs->bS cs=false/\dz cs=[]):=by
   intro l hl b hb;cases ho:bX (dJ rE) 0 s.H H' with
   |none=>rw[ho] at hl; cases hl
   |some r=>
     rw[ho] at hl;have hl:some (dJ rE++r)=some l:=hl;cases hl;have xC:=fv hb;have:=EN ho b (by simpa using xC.1);refine⟨this.1,fun h2=>this.2 ?_⟩;have:=(fv h2).2;simpa using this
  refine⟨fun p=>cN p=false,⟨fun i hi _=>?_,fun i hi=>?_,fun i h1 h2=>?_,fun l hl b hb=>?_,fun i hi=>⟨fun p hp=>?_,by simp[cN],fun j=>by simp[cN]⟩,fun l hl b hb xC cs dQ=>?_,fun d u hd qG _ hu=>?_⟩⟩
  ·simp only[he,eO,dF];refine IF (Gn ?_);cases hh:de (aV (get s.env i)) with
   |false=>rfl
   |true=>exact absurd (vU hh) hi
  ·simp only[he,eO,dF];rw[IF (Gn ?_)];cases hh:de (aV (get s.env i)) with
   |false=>rfl
   |true=>exact absurd (vU hh) hi
  ·simp only[he,eO,dF];exact IF fun p hp=>by rw[h2] at hp; simp at hp
  ·exact (off l hl b hb).1
  ·have:de (aV (get s.env i))=false:=by
    cases hh:de (aV (get s.env i)) with
    |false=>rfl
    |true=>exact absurd (vU hh) hi
   rw[Gn this p hp]; simp
  ·obtain⟨o1,o2⟩:=(off l hl b hb).2 xC cs dQ;exact⟨fun p hp=>(by rw[o2] at hp; cases hp),fun ho=>(by rw[o1] at ho; cases ho)⟩
  ·let t0:St:=Xt ⟨put s.env d u,s.H⟩
   have hg:∀i,get t0.env i=if i=d then u else get s.env i:=fun i=>by rw[rA,bQ]
   have hH:t0.H=s.H:=rfl
   have hrd:∀i∈kd.reads,get t0.env i=get s.env i:=fun i hi=>by
    rw[hg,if_neg]; intro e; subst e; exact hd hi
   refine⟨t0,⟨l8 jD t0.env,H'⟩,dn t0.env,(tA _).symm,?_,fun i hi=>?_,?_,rfl⟩
   ·rw[jJ];unfold dN;rw[Bn hi,Ge hl];simp only[gP,F9 hmv];apply uA;unfold eT;rw[jg (e1:=t0.env) (e2:=s.env) fun i hi=>by rw[hrd i hi],ha];simp only[hf,hm,he,eO,bH,if_false];rw[jg (e1:=t0.env) (e2:=s.env) fun i hi=>by rw[hrd i hi],N6];simp only[hff,if_true,jI,hH,hp,hc,hr];simp
    first
     |done
     |rfl
     |(congr 1)
   ·obtain⟨_,h2⟩:=Oz hi;have:get (put s.env d u) i=get t0.env i:=(rA ⟨put s.env d u,s.H⟩ i).symm;simp only[this,hg] at h2;split at h2
    ·rename_i e;subst e;obtain⟨p,hp,hn⟩:=Gp.1 h2;exact absurd hn (hu p hp)
    ·exact vU h2
   ·intro i;simp only[he,eO,dF,hg,bQ];split
    ·refine IF fun p hp=>?_;have:=hu p hp;simpa using this
    ·rfl
 ·rename_i jI;split at h
  case isFalse=>cases h
  rename_i hp0;split at h
  case h_2=>cases h
  rename_i r H' hc;split at h
  case isFalse=>cases h
  rename_i oS;simp only[af,aF] at h;obtain⟨rfl,rfl,h⟩:=h;split at h
  ·cases h
  unfold pP at h;split at h
  case h_2=>cases h
  rename_i p hbr;split at h
  case h_2=>cases h
  rename_i y hp;obtain⟨k,xs⟩:=y;simp only[Fq.wr.injEq] at h;obtain⟨rfl,rfl⟩:=h
  have It:∀t:St,aB t p=some (k,xs)->eO (dz args) t=setAt (cB (fb p k xs) t) p (.list k xs):=fun t ht=>by
   rw[hbr];simp only[eO,My,ht]
  rw[It s hp];refine adG hp fun t ht hpt=>?_;rw[jJ];unfold dN;rw[Bn hi,Ge hl];simp only[gP,F9 hmv];apply uA;unfold eT;rw[jg (e1:=t.env) (e2:=s.env) fun i hi=>by rw[ht i hi],ha];simp only[hf,hm,bH,if_false];rw[It t hpt];rw[It s hp] at N6
  have hk:getArgs c (setAt (cB (fb p k xs) t) p (.list k xs)).env kd=some (f1,rE):=by
   rw[<-N6];refine jg fun i hi=>?_
   have e0:get (cB (fb p k xs) t).env i=get (cB (fb p k xs) s).env i:=by
    show get (l8 (fb p k xs) t.env) i=get (l8 (fb p k xs) s.env) i;rw[dF,dF,ht i hi]
   have e1:get (setAt (cB (fb p k xs) t) p (.list k xs)).env i=get (setAt (cB (fb p k xs) s) p (.list k xs)).env i:=by
    by_cases hr:i∈rootOf p
    ·cases p with
     |s i0=>
       simp[rootOf] at hr; subst hr;simp only[setAt];rw[bQ,bQ,if_pos rfl,if_pos rfl]
     |sc i0 j=>
       simp[rootOf] at hr; subst hr;simp only[setAt,e0];split
       ·rw[bQ,bQ,if_pos rfl,if_pos rfl]
       ·exact e0
     |c b j=>simp[rootOf] at hr
    ·rw[gM hr,gM hr]; exact e0
   rw[e1]
  rw[hk];simp only[hff,if_true,jI,bH,if_false,hp0,hc,oS];simp[hbr,pP,hpt]
theorem acJ {s s1:St} {k n:Nat} {zs:List AV} {ps:List (Nat × Nat × E)} {v:AV} {sl:List Nat} {bs:Option (List Nat)} (h:fD c call s (.dw k n zs ps)=some (v,s1,.wr sl bs)):∃V,yL c call s (.dw k n zs ps) v s1 sl bs V:=by
 simp only[fD] at h;split at h
 case h_2=>cases h
 rename_i cs hc;split at h
 case isFalse=>cases h
 rename_i hz;simp only[af,aF] at h;obtain⟨rfl,rfl,h⟩:=h;split at h
 ·cases h
 unfold pP at h;split at h
 case h_2=>cases h
 rename_i p hbr;split at h
 case h_2=>cases h
 rename_i y hp;obtain⟨k',xs⟩:=y;simp only[Fq.wr.injEq] at h;obtain⟨rfl,rfl⟩:=h
 have It:∀t:St,aB t p=some (k',xs)->eO (iy c s.env ps) t=setAt (cB (fb p k' xs) t) p (.list k' xs):=fun t ht=>by
  rw[hbr];simp only[eO,My,ht]
 rw[It s hp] at hc ⊢;refine adG hp fun t ht hpt=>?_;have hpb:iy c t.env ps=iy c s.env ps:=ui fun i hi=>by rw[ht i hi]
 have hk:tc c (setAt (cB (fb p k' xs) t) p (.list k' xs)).env (rep zs n) ps=some cs:=by
  rw[<-hc];refine vq fun i hi=>?_
  have e0:get (cB (fb p k' xs) t).env i=get (cB (fb p k' xs) s).env i:=by
   show get (l8 (fb p k' xs) t.env) i=get (l8 (fb p k' xs) s.env) i;rw[dF,dF,ht i hi]
  have e1:get (setAt (cB (fb p k' xs) t) p (.list k' xs)).env i=get (setAt (cB (fb p k' xs) s) p (.list k' xs)).env i:=by
   by_cases hr:i∈rootOf p
   ·cases p with
    |s i0=>
      simp[rootOf] at hr; subst hr;simp only[setAt];rw[bQ,bQ,if_pos rfl,if_pos rfl]
    |sc i0 j=>
      simp[rootOf] at hr; subst hr;simp only[setAt,e0];split
      ·rw[bQ,bQ,if_pos rfl,if_pos rfl]
      ·exact e0
    |c b j=>simp[rootOf] at hr
   ·rw[gM hr,gM hr]; exact e0
  rw[e1]
 simp only[fD,hpb,It t hpt,hk,hz,if_true];simp[hbr,pP,hpt]
theorem Dw {b off k:Nat}:∀{s:St} {v:AV},Nh (dq b off k) s v=false->(∀i,∀p∈aV (get s.env i),dq b off k p=false)/\(∀d cs,aH s.H d=some cs->∀p∈dz cs,dq b off k p=false)/\∀ p∈aV v,dq b off k p=false:=by
 intro s v h;simp only[Nh,fi] at h;obtain⟨h1,h2,h3⟩:=h;refine⟨fun i p hp=>?_,fun d cs hb=>Nc h3 hb,fun p hp=>?_⟩
 ·cases hh:dq b off k p with
  |false=>rfl
  |true=>rw[Wb (i:=i) (wL.2 ⟨p,hp,hh⟩)] at h2; cases h2
 ·cases hh:dq b off k p with
  |false=>rfl
  |true=>rw[wL.2 ⟨p,hp,hh⟩] at h1; cases h1
theorem aiS {p:Rt} {b:Nat} (h:qe b (abY p)=false):b∉nn p:=by
 cases p with
 |s i=>simp[nn]
 |sc i j=>simp[nn]
 |c d j=>
   have:=(qA h).2 99999;simp only[abY,nn,cX] at this ⊢;intro e;subst e;exact this rfl
theorem uP.abn {b j:Nat} {s t:St} (h:∀cs,aH s.H b=some cs->∃ds,aH t.H b=some ds/\ds[j]?=cs[j]?):uP b j s t:=fun cs hc=>by
 obtain⟨ds,a,e⟩:=h cs hc;exact⟨ds,a,xp _ e⟩
theorem WU {s:St} {p:Rt} {k:Nat} {xs xs':List AV} (hp:aB s p=some (k,xs)) (hl:xs'.length=xs.length) (b j:Nat):uP b j s (setAt s p (.own k xs'))/\uP b j (setAt s p (.own k xs')) s:=by
 cases p with
 |s i=>exact⟨.of_eq rfl,.of_eq rfl⟩
 |sc i l=>
   have e:(setAt s (.sc i l) (.own k xs')).H=s.H:=by simp only[setAt]; split<;>rfl
   exact⟨.of_eq (by rw[e]),.of_eq (by rw[e])⟩
 |c d l=>
   have h1:=cD.1 hp;simp only[at_] at h1;split at h1
   case h_2=>cases h1
   rename_i cs dQ;have e:(setAt s (.c d l) (.own k xs')).H=s.H.set d (some (cs.set l (.own k xs'))):=by simp only[setAt,dQ]
   have hb:∀c,aH (setAt s (.c d l) (.own k xs')).H c=if c=d then some (cs.set l (.own k xs')) else aH s.H c:=fun c=>by
    rw[e,dH];by_cases q:c=d
    ·rw[if_pos ⟨q,by subst q; exact dU dQ⟩,if_pos q]
    ·rw[if_neg (fun h=>q h.1),if_neg q]
   by_cases q:b=d
   ·subst q;have lc:=Gg (f:=fun i=>Rt.c b i) (j:=0) h1 hl;refine⟨fun ds qG=>⟨_,by rw[hb,if_pos rfl],?_⟩,fun ds qG=>⟨cs,dQ,?_⟩⟩
    ·rw[dQ] at qG; cases qG;exact congrArg (·[j]?) lc
    ·rw[hb,if_pos rfl] at qG; cases qG;exact (congrArg (·[j]?) lc).symm
   ·exact⟨.of_eq (by rw[hb,if_neg q]),.of_eq (by rw[hb,if_neg q])⟩
theorem anh {s s1:St} {k:Nat} {x y:E} {v:AV} {sl:List Nat} {bs:Option (List Nat)} (h:fD c call s (.st k x y)=some (v,s1,.wr sl bs)):∃V,YP c call s (.st k x y) v s1 sl bs V:=by
 have hcg:∀{d:Nat} {u:AV} {e:Env},(∀i,get e i=if i=d then u else get s.env i)->d∉(Kd.st k x y).reads->bq c e x=bq c s.env x/\bq c e y=bq c s.env y:=by
  intro d u e he hd;simp only[Kd.reads,aI,not_or] at hd;exact⟨cz fun i hi=>by rw[he,if_neg]; intro e; subst e; exact hd.1 hi,cz fun i hi=>by rw[he,if_neg]; intro e; subst e; exact hd.2 hi⟩
 have NB:∀{d:Nat} {u:AV},∀i,get (put s.env d u) i=if i=d then u else get s.env i:=fun i=>bQ _ _ _ _;simp only[fD] at h;split at h
 ·rename_i k' p i off hx;split at h
  case h_2=>cases h
  rename_i s2 f hh;simp only[af,aF] at h;obtain⟨rfl,rfl,h⟩:=h
  have he:aV (bq c s.env y)=[]:=by
   cases hb:aV (bq c s.env y) with
   |nil=>rfl
   |cons a b=>rw[hb] at h; simp at h
  rw[he] at h hh;simp at h;subst h;rw[show eO [] s=s from rfl,hx] at hh;simp only[Wo] at hh;split at hh
  case h_2=>cases hh
  rename_i k2 xs hp;split at hh
  case isFalse=>cases hh
  rename_i hk;split at hh
  case h_2=>cases hh
  rename_i z hz;by_cases hc:(bq c s.env y).cells.length=k/\off+k<=k'/\FG (bq c s.env y).cells=true
  case neg=>rw[if_neg hc] at hh; cases hh
  rw[if_pos hc] at hh;simp only[af,aF,Fq.wr.injEq] at hh;obtain⟨rfl,rfl,rfl⟩:=hh;have Aq:=zY hp;refine⟨fun _=>False,⟨fun i _ hi=>gM fun hm=>hi (Bg.2 hm),fun i _=>WV (hk▸hp) (cF ..) i,(fun i h1 h2=>gM fun hi=>by rw[Aq i hi] at h1; cases h1),fun l hl b hb=>(by cases hl; exact vS (aiS hb)),fun l hl b j hb hbj=>(by cases hl; exact WU (hk▸hp) (cF ..) b j),fun i hi=>⟨fun _ _=>id,id,fun _=>id⟩,fun l hl b hb xC cs dQ=>⟨fun _ _=>id,fun _ _=>id⟩,fun l hl b j _ _ _ cs c0 _ _=>⟨fun _ _=>id,fun _ _ _=>id⟩,fun d u hd _ hds0 hu=>?_⟩⟩;have qG:d∉rootOf p:=fun hm=>hds0 (Bg.2 hm);obtain⟨e1,e2⟩:=hcg (NB (d:=d) (u:=u)) hd;refine⟨⟨put s.env d u,s.H⟩,_,marks (rootOf p),eC.rfl',?_,fun i hi=>hi,vR qG⟩;simp only[fD,e1,hx,e2,he];rw[show eO [] ⟨put s.env d u,s.H⟩=(⟨put s.env d u,s.H⟩:St) from rfl,e1,hx,e2];simp only[Wo,qk qG,hp,hk,if_true,hz];rw[if_pos hc];simp
 ·rename_i hnp;split at h
  case h_2=>cases h
  rename_i s2 f hh;simp only[af,aF] at h;obtain⟨rfl,rfl,rfl⟩:=h;unfold Wo at hh;split at hh
  ·rename_i b off hx;unfold BZ at hh;split at hh
   case h_2=>cases hh
   rename_i cs hb;split at hh
   case isFalse=>cases hh
   rename_i hc;split at hh
   ·split at hh
    ·split at hh<;>simp at hh
    ·cases hh
   ·rename_i N5;simp only[af,aF,Fq.wr.injEq] at hh;obtain⟨rfl,rfl,rfl⟩:=hh
    have abZ:bS ((cs.drop off).take k)=true->Nh (dq b off k) s (bq c s.env y)=false:=fun ho=>by
     rw[ho] at N5; simpa using N5
    apply yL.up;refine⟨fun p=>bS ((cs.drop off).take k)=true/\dq b off k p=true,⟨fun i hi _=>rfl,fun i hi=>rfl,fun i h1 h2=>rfl,fun l hl d hd=>?_,fun i hi=>⟨fun p hp hV=>?_,fun hV=>by simp[dq] at hV,fun j hV=>by simp[dq] at hV⟩,fun l hl d hd H5 ds qG=>⟨fun p hp hV=>?_,fun _ j hV=>?_⟩,fun d u hd qG _ hu=>?_⟩⟩
    ·cases hl;have:d≠b:=by simpa using hd
     show aH (s.H.set b _) d=aH s.H d;rw[dH,if_neg (fun e=>this e.1)]
    ·rw[(Dw (abZ hV.1)).1 i p hp] at hV; cases hV.2
    ·rw[(Dw (abZ hV.1)).2.1 d ds qG p hp] at hV; cases hV.2
    ·cases hl;have:d≠b:=by simpa using hd
     simp[dq,this] at hV
    ·let t0:St:=Xt ⟨put s.env d u,s.H⟩
     have hg:∀i,get t0.env i=if i=d then u else get s.env i:=fun i=>by rw[rA,bQ]
     have hH:t0.H=s.H:=rfl;obtain⟨e1,e2⟩:=hcg hg hd;refine⟨t0,⟨t0.env,s.H.set b (some (kj cs off (bq c s.env y).cells))⟩,[],(tA _).symm,?_,fun i hi=>hi,(tA _).symm.1,rfl⟩
     have anX:(bS ((cs.drop off).take k)&&Nh (dq b off k) t0 (bq c s.env y))=false:=by
      cases ho:bS ((cs.drop off).take k) with
      |false=>rfl
      |true=>
        obtain⟨n1,n2,n3⟩:=Dw (abZ ho)
        have nR:∀{l:List Rt},(∀p∈l,dq b off k p=false)->AH (dq b off k) l=false:=by
         intro l hl;cases hh:AH (dq b off k) l with
         |false=>rfl
         |true=>obtain⟨p,hp,hq⟩:=wL.1 hh; rw[hl p hp] at hq; cases hq
        have h0:=abZ ho;simp only[Nh,fi] at h0;simp only[Nh,Bool.true_and,fi];refine⟨h0.1,?_,by rw[hH]; exact h0.2.2⟩;cases hh:Ng (dq b off k) t0.env with
        |false=>rfl
        |true=>
          obtain⟨i,_,h2⟩:=Nf hh;have:get (put s.env d u) i=get t0.env i:=(rA ⟨put s.env d u,s.H⟩ i).symm;simp only[this,hg] at h2;split at h2
          ·obtain⟨p,hp,hq⟩:=wL.1 h2;exact absurd ⟨ho,hq⟩ (hu p hp)
          ·rw[nR (n1 i)] at h2; cases h2
     simp only[fD,e1,hx,e2,Wo,BZ,hH,hb];rw[if_pos hc];simp only[anX,bH,if_false]
  ·rename_i k2 p2 i2 off2 e1;exact absurd e1 (hnp k2 p2 i2 off2)
  ·cases hh
theorem Js {q:Rt}:∀{l:List Rt},q∈l->∀i∈rootOf q,i∈Cm l
 |[],h,i,_=>by simp at h
 |r::l,h,i,hi=>by
   simp only[Cm,aI];rcases aO.1 h with e|e
   ·subst e; exact .inl hi
   ·exact .inr (Js e i hi)
theorem agU {s t:St} {k:Nat} {x:AV} (h:∀p∈aV x,aB t p=aB s p):cont t k x=cont s k x:=by
 cases x<;>try rfl
 case dX k' p off len=>simp only[cont]; rw[h p (by simp[aV])]
 case own k' xs=>cases xs<;>rfl
theorem adN {p:Rt} {x:AV} (h:p∉aV x):cW (sw p) x=x:=EX x fun k q o l hq=>by
 have:q≠p:=fun e=>h (e▸hq);simp[sw,this]
theorem Y9 {p:Rt} {x:List AV} (h:p∉dz x):dp (sw p) x=x:=qq x fun k q o l hq=>by
 have:q≠p:=fun e=>h (e▸hq);simp[sw,this]
theorem MV {p:Rt} {b:Nat} {m:List Nat} (h:qe b (cellOf p++m)=false):b∉nn p:=by
 intro hb;cases p with
 |s i=>simp[nn] at hb
 |sc i j=>simp[nn] at hb
 |c d j=>
   simp[nn] at hb;subst hb;exact (qA h).2 j (by simp[cellOf])
theorem akR {s s1:St} {k:Nat} {x y:E} {v:AV} {sl:List Nat} {bs:Option (List Nat)} (h:fD c call s (.app k x y)=some (v,s1,.wr sl bs)):∃V,YP c call s (.app k x y) v s1 sl bs V:=by
 simp only[fD] at h;split at h
 case h_2=>cases h
 rename_i ys hy;split at h
 case isFalse=>cases h
 rename_i hl;split at h
 ·split at h<;>simp at h
 case h_3=>cases h
 rename_i k' p len hx;split at h
 case h_2=>cases h
 rename_i k2 xs hp;split at h
 case isFalse=>cases h
 rename_i hc;simp only[af,aF,Fq.wr.injEq] at h;obtain⟨rfl,rfl,rfl,rfl⟩:=h;have Aq:=zY hp;have D6:∀i∈rootOf p,i∈oF p s.env:=fun i hi=>qg (.inr ⟨vl.2 hi,fun e=>by have:=Aq i hi; rw[e] at this; cases this⟩);have qo:∀{i:Nat},i∉oF p s.env->p∉aV (get s.env i)/\i∉rootOf p:=fun{i} hi=>⟨fun e=>hi (qg (.inl (wF.2 e))),fun e=>hi (D6 i e)⟩
 have MF:∀i,p∉aV (get s.env i)->i∉rootOf p->get (setAt (cB (sw p) s) p .any).env i=get s.env i:=fun i h1 h2=>by
  rw[gM h2];show get (l8 (sw p) s.env) i=_;rw[dF,adN h1]
 refine⟨fun q=>q=p,⟨fun i hi _=>?_,fun i hi=>?_,fun i h1 h2=>?_,fun l hl b hb=>?_,fun l hl b j hb hbj=>?_,fun i hi=>⟨fun q hq e=>?_,fun e=>?_,fun j e=>?_⟩,fun l hl b hb xC cs dQ=>⟨fun q hq e=>?_,fun _ j e=>?_⟩,fun l hl b j hb xC hbj cs c0 dQ Mn=>⟨fun q hq e=>?_,fun k0 xs0 e0 e=>?_⟩,fun d u hd qG hds2 hu=>?_⟩⟩
 ·obtain⟨h1,h2⟩:=qo (fv hi).1;exact MF i h1 h2
 ·obtain⟨h1,h2⟩:=qo (fv hi).1;rw[MF i h1 h2]
 ·exact MF i (by rw[h2]; simp) fun hi=>by rw[Aq i hi] at h1; cases h1
 ·cases hl;have B9:b∉nn p:=MV hb;have xC:=(fv (qA hb).1).2;rw[vS B9];show aH (gK (sw p) s.H) b=_;rw[fR];cases dQ:aH s.H b with
  |none=>rfl
  |some cs=>
    simp only[cG,af];refine Y9 fun hm=>xC ?_;have:=oG (k:=0) dQ hm;simpa using this
 ·cases hl;obtain⟨B9,xC⟩:=fv hb;obtain⟨hj1,_⟩:=fv hbj
  have hsw:∀cs,aH s.H b=some cs->dp (sw p) cs=cs:=fun cs dQ=>Y9 fun hm=>xC (by
   have:=oG (k:=0) dQ hm;simpa using this)
  have hn:aH s.H b=none->aH (setAt (cB (sw p) s) p .any).H b=none:=fun hn=>by
   cases p with
   |s i=>show aH (gK (sw _) s.H) b=none; rw[fR,hn]; rfl
   |sc i l=>
     simp only[setAt];split<;>(show aH (gK (sw _) s.H) b=none; rw[fR,hn]; rfl)
   |c d l=>
     simp only[setAt];split
     ·rename_i cs dQ;have hcs':aH (gK (sw (.c d l)) s.H) d=some cs:=dQ;show aH ((gK (sw (.c d l)) s.H).set d _) b=none;rw[dH];by_cases e:b=d
      ·subst e; rw[fR,hn] at hcs'; cases hcs'
      ·rw[if_neg (fun h=>e h.1),fR,hn]; rfl
     ·show aH (gK (sw _) s.H) b=none; rw[fR,hn]; rfl
  have hs:∀cs,aH s.H b=some cs->∃ds,aH (setAt (cB (sw p) s) p .any).H b=some ds/\ds[j]?=cs[j]?:=fun cs dQ=>by
   have hm:aH (gK (sw p) s.H) b=some cs:=by rw[fR,dQ,cG,hsw cs dQ]
   cases p with
   |s i=>exact⟨cs,hm,rfl⟩
   |sc i l=>
     simp only[setAt];split<;>exact⟨cs,hm,rfl⟩
   |c d l=>
     simp only[setAt];split
     ·rename_i es hes;have hes':aH (gK (sw (.c d l)) s.H) d=some es:=hes;show ∃ds,aH ((gK (sw (.c d l)) s.H).set d _) b=some ds/\_;rw[dH];by_cases e:b=d
      ·subst e;rw[hm] at hes';cases hes';refine⟨cs.set l .any,by rw[if_pos ⟨rfl,dU hm⟩],?_⟩;rw[List.getElem?_set_ne];intro e2;subst e2;exact hj1 (by simp[cellOf])
      ·rw[if_neg (fun h=>e h.1)];exact⟨cs,hm,rfl⟩
     ·exact⟨cs,hm,rfl⟩
  refine⟨.abn hs,.abn fun ds qG=>?_⟩;cases dQ:aH s.H b with
  |none=>rw[hn dQ] at qG; cases qG
  |some cs=>
    obtain⟨ds',h1,h2⟩:=hs cs dQ;rw[h1] at qG;cases qG;exact⟨cs,rfl,h2.symm⟩
 ·subst e;exact (qo (fv hi).1).1 hq
 ·subst e;exact (qo (fv hi).1).2 (by simp[rootOf])
 ·subst e;exact (qo (fv hi).1).2 (by simp[rootOf])
 ·subst e;cases hl;obtain⟨B9,xC⟩:=fv (qA hb).1;have:=oG (k:=0) dQ hq;exact xC (by simpa using this)
 ·subst e;cases hl;exact MV hb (by simp[nn])
 ·subst e;cases hl;obtain⟨B9,xC⟩:=fv hb;have:=oG (k:=0) dQ (lI.2 ⟨c0,bp Mn,hq⟩);exact xC (by simpa using this)
 ·subst e;cases hl;exact (fv hbj).1 (by simp[cellOf])
 ·have hd1:=(fv qG).1;have H5:d∉Cm (aV (bq c s.env y)):=fun hm=>(fv hds2).2 (Bg.2 hm);obtain⟨hd3,hd4⟩:=qo hd1
  let t0:St:=Xt ⟨put s.env d u,s.H⟩
  have Mk:eC t0 ⟨put s.env d u,s.H⟩:=(tA _).symm;have hg:∀i,get t0.env i=if i=d then u else get s.env i:=fun i=>by rw[rA,bQ]
  have hH:t0.H=s.H:=rfl;simp only[Kd.reads,aI,not_or] at hd;have e1:bq c t0.env x=bq c s.env x:=cz fun i hi=>by rw[hg,if_neg]; intro e; subst e; exact hd.1 hi
  have e2:bq c t0.env y=bq c s.env y:=cz fun i hi=>by rw[hg,if_neg]; intro e; subst e; exact hd.2 hi
  have own:∀q,d∉rootOf q->aB t0 q=aB s q:=fun q hq=>by rw[<-Mk.own q]; exact qk hq
  have e3:cont t0 k (bq c s.env y)=cont s k (bq c s.env y):=agU fun q hq=>own q fun hr=>H5 (Js hq d hr);have NU:p∉aV u:=fun hm=>hu p hm rfl;refine⟨t0,setAt (cB (sw p) t0) p .any,oF p t0.env++marks (Cm (aV (bq c s.env y))),Mk,?_,fun i hi=>?_,?_⟩
  ·simp only[fD,e1,e2,e3,hy,hl,if_true,hx,own p hd4,hp];rw[if_pos hc];rfl
  ·rcases aI.1 hi with hi|hi
   ·obtain⟨_,h2⟩:=FK hi;have:get (put s.env d u) i=get t0.env i:=(rA ⟨put s.env d u,s.H⟩ i).symm;simp only[this,hg] at h2;refine aI.2 (.inl ?_);rcases h2 with h2|h2
    ·split at h2
     ·exact absurd (wF.1 h2) NU
     ·exact qg (.inl h2)
    ·exact D6 i (vl.1 h2)
   ·exact aI.2 (.inr hi)
  ·have h5:eC (cB (sw p) t0) ⟨put (cB (sw p) s).env d u,(cB (sw p) s).H⟩:=⟨fun i=>by
    show get (l8 (sw p) t0.env) i=get (put (l8 (sw p) s.env) d u) i;rw[dF,hg,bQ,dF];split
    ·exact adN NU
    ·rfl,rfl⟩
   exact (Jn h5 p .any).trans (vR hd4)
theorem akQ {s s1:St} {f:Nat} {x:E} {es:List E} {g:Nat->List AV->List AV->Option (List AV)} {v:AV} {sl:List Nat} {bs:Option (List Nat)} (hi:c.inp f=none) (SF:c.eat f=some g) (h:Yq s g (bq c s.env x) (dK c s.env es)=some (v,s1,.wr sl bs)):∃V,YP c call s (.call f (x::es)) v s1 sl bs V:=by unfold Yq at h;cases h
theorem akP {s s1:St} {kd:Kd} {v:AV} {sl:List Nat} {bs:Option (List Nat)} (hni:∀f x es,kd=.call f (x::es)->c.inp f≠none) (jJ:∀t,fD c call t kd=dN c call kd t) (h:sO c s kd=some (some (v,s1,.wr sl bs))):∃V,yL c call s kd v s1 sl bs V:=by
 have h0:=h;unfold sO at h;split at h
 case h_2=>cases h
 rename_i f x es;split at h
 case h_1=>
  rename_i hin;exact absurd hin (hni _ _ _ rfl)
 rename_i g SF;simp only[af] at h;split at h
 case h_4=>cases h
 case h_3=>
  exfalso
  (repeat' split at h)<;>simp at h
 ·rename_i k hx;split at h
  case isFalse=>cases h
  rename_i oS;split at h
  case h_2=>cases h
  rename_i ys res NZ;simp only[af,aF,Fq.wr.injEq] at h;obtain⟨rfl,rfl,rfl,rfl⟩:=h;refine⟨fun _=>False,⟨fun i hi _=>rfl,fun i hi=>rfl,fun i h1 h2=>rfl,fun l hl b hb=>rfl,fun i hi=>⟨fun _ _=>id,id,fun _=>id⟩,fun l hl b hb xC cs dQ=>⟨fun _ _=>id,fun _ _=>id⟩,fun d u hd qG _ hu=>?_⟩⟩;have NB:∀i,get (put s.env d u) i=if i=d then u else get s.env i:=fun i=>bQ _ _ _ _;simp only[Kd.reads,qa,aI,not_or] at hd;have e1:bq c (put s.env d u) x=bq c s.env x:=cz fun i hi=>by rw[NB,if_neg]; intro e; subst e; exact hd.1 hi
  have e2:dK c (put s.env d u) es=dK c s.env es:=im fun i hi=>by rw[NB,if_neg]; intro e; subst e; exact hd.2 hi
  refine⟨⟨put s.env d u,s.H⟩,⟨put s.env d u,s.H⟩,[],eC.rfl',?_,fun i hi=>hi,eC.rfl'⟩;rw[jJ];unfold dN sO;simp only[SF,e1,hx,e2];rw[if_pos oS];simp only[NZ]
 rename_i k p len hx;split at h
 case h_2=>cases h
 rename_i k' xs hp;split at h
 case isFalse=>cases h
 rename_i hc;split at h
 case h_2=>cases h
 rename_i ys res NZ;simp only[af,aF,Fq.wr.injEq] at h;obtain⟨rfl,rfl,rfl,rfl⟩:=h;have Aq:=zY hp;refine⟨fun _=>False,⟨fun i hi _=>gM hi,(fun i hi=>by rw[gM hi]),(fun i h1 h2=>gM fun hi=>by rw[Aq i hi] at h1; cases h1),fun l hl b hb=>(by cases hl; exact vS hb),fun i hi=>⟨fun _ _=>id,id,fun _=>id⟩,fun l hl b hb xC cs dQ=>⟨fun _ _=>id,fun _ _=>id⟩,fun d u hd qG _ hu=>?_⟩⟩;have NB:∀i,get (put s.env d u) i=if i=d then u else get s.env i:=fun i=>bQ _ _ _ _;simp only[Kd.reads,qa,aI,not_or] at hd;have e1:bq c (put s.env d u) x=bq c s.env x:=cz fun i hi=>by rw[NB,if_neg]; intro e; subst e; exact hd.1 hi
 have e2:dK c (put s.env d u) es=dK c s.env es:=im fun i hi=>by rw[NB,if_neg]; intro e; subst e; exact hd.2 hi
 refine⟨⟨put s.env d u,s.H⟩,_,rootOf p,eC.rfl',?_,fun i hi=>hi,vR qG⟩;rw[jJ];unfold dN sO;simp only[SF,e1,hx,qk qG,hp,e2];rw[if_pos hc];simp only[NZ]
theorem aht {s s1:St} {k:Nat} {x y:E} {v:AV} {sl:List Nat} {bs:Option (List Nat)} (h:fD c call s (.copy k x y)=some (v,s1,.wr sl bs)):∃V,yL c call s (.copy k x y) v s1 sl bs V:=by
 have jJ:∀t,fD c call t (.copy k x y)=match bq c t.env x with
   |.dX k' p off n=>if n=0 then (match cont t k (bq c t.env y) with
     |some ys=>if k'=k/\bF (aC ys)=true then some (.int .i64 0,t,.all) else none
     |none=>none) else match aB t p,cont t k (bq c t.env y) with
     |some (Bj,xs),some ys=>if k'=k/\Bj=k/\off+n<=xs.length/\bF (aC ys)=true then some (.int .i64 (min ys.length n:Nat),setAt t p (.own k (kj xs off (ys.take (min ys.length n)))),VT p (bq c t.env y)) else none
     |_,_=>none
   |_=>none:=fun t=>rfl
 rw[jJ] at h;split at h
 case h_2=>cases h
 rename_i k' p off n hx;split at h
 ·exfalso
  (repeat' split at h)<;>simp at h
 rename_i hn;split at h
 case h_2=>cases h
 rename_i Bj xs ys hp hy;split at h
 case isFalse=>cases h
 rename_i hc;simp only[af,aF] at h;obtain⟨rfl,rfl,hl⟩:=h;rcases AA p (bq c s.env y) with e|⟨ky,oy,ly,ey,e⟩
 ·rw[e] at hl; cases hl
 rw[e] at hl;simp only[Fq.wr.injEq] at hl;obtain⟨rfl,rfl⟩:=hl;have Aq:=zY hp;refine⟨fun _=>False,⟨fun i hi _=>gM hi,(fun i hi=>by rw[gM hi]),(fun i h1 h2=>gM fun hi=>by rw[Aq i hi] at h1; cases h1),fun l hl b hb=>(by cases hl; exact vS hb),fun i hi=>⟨fun _ _=>id,id,fun _=>id⟩,fun l hl b hb xC cs dQ=>⟨fun _ _=>id,fun _ _=>id⟩,fun d u hd qG _ hu=>?_⟩⟩;have NB:∀i,get (put s.env d u) i=if i=d then u else get s.env i:=fun i=>bQ _ _ _ _;simp only[Kd.reads,qa,aI,not_or] at hd;have e1:bq c (put s.env d u) x=bq c s.env x:=cz fun i hi=>by rw[NB,if_neg]; intro e; subst e; exact hd.1 hi
 have e2:bq c (put s.env d u) y=bq c s.env y:=cz fun i hi=>by rw[NB,if_neg]; intro e; subst e; exact hd.2 hi
 have e3:cont (⟨put s.env d u,s.H⟩:St) k (bq c s.env y)=cont s k (bq c s.env y):=by
  rw[ey];simp only[cont,qk qG]
 refine⟨⟨put s.env d u,s.H⟩,_,rootOf p,eC.rfl',?_,fun i hi=>hi,vR qG⟩;rw[jJ];simp only[e1,hx,qk qG,hp,e2,e3,hy];rw[if_neg hn,if_pos hc,e]
theorem ahs {s s1:St} {kd:Kd} {v:AV} {sl:List Nat} {bs:Option (List Nat)} (jJ:∀t,fD c call t kd=dN c call kd t) (h:sO c s kd=some (some (v,s1,.wr sl bs))):∃V,YP c call s kd v s1 sl bs V:=by
 by_cases hex:∃f x es,kd=.call f (x::es)/\c.inp f=none
 case neg=>
  exact yL.up (akP (fun f x es e hn=>hex ⟨f,x,es,e,hn⟩) jJ h)
 case pos=>
  obtain⟨f,x,es,rfl,hin⟩:=hex;simp only[sO,hin] at h;split at h
  ·cases h
  ·rename_i g SF;simp only[af] at h;exact akQ hin SF h
theorem SP {s s1:St} {kd:Kd} {v:AV} {sl:List Nat} {bs:Option (List Nat)} (jJ:∀t,fD c call t kd=dN c call kd t) (h:fD c call s kd=some (v,s1,.wr sl bs)):∃V,YP c call s kd v s1 sl bs V:=by
 rw[jJ] at h;unfold dN at h;cases hi:sO c s kd with
 |none=>
   rw[hi] at h;cases hl:p7 c call s kd with
   |none=>
     rw[hl] at h;simp only[gP] at h;cases hm:vE c call s kd with
     |none=>
       rw[hm] at h;replace h:=(jX h).resolve_right fun h=>by obtain⟨e,_⟩:=A6 h; cases e
       exact yL.up (ahu jJ hi hl hm h)
     |some r=>
       rw[hm] at h;simp only at h;subst h;obtain⟨e,_⟩:=Be hm;cases e
   |some r=>
     rw[hl] at h;simp only at h;subst h;obtain⟨b,e⟩:=IY hl;cases e
 |some r=>
   rw[hi] at h;simp only at h;subst h;exact ahs jJ hi
theorem wrOp {s s1:St} {kd:Kd} {v:AV} {sl:List Nat} {bs:Option (List Nat)} (h:fD c call s kd=some (v,s1,.wr sl bs)):∃V,YP c call s kd v s1 sl bs V:=by
 cases kd
 case call=>exact SP (fun _=>rfl) h
 case jM=>exact SP (fun _=>rfl) h
 case st=>exact anh h
 case app=>exact akR h
 case copy=>exact yL.up (aht h)
 case dw=>exact yL.up (acJ h)
 case ld=>
  exfalso;simp only[fD] at h;split at h
  case h_2=>cases h
  split at h
  case isFalse=>cases h
  simp only[af,aF] at h;obtain⟨_,_,h5⟩:=h;rcases Ak _ _ _ with e|⟨b,j,e⟩<;>rw[e] at h5<;>cases h5
 all_goals
  exfalso;simp only[fD] at h
  (repeat' split at h)<;>simp at h
theorem ani:FB c call:=by
 intro s q v s1 sl bs ⟨hk,s0,t1,e0,he,e1⟩
 have op:fD c call s0 q.kd=some (v,t1,.wr sl bs)->(∀t:St,(∀i∈q.reads,get t.env i=get s.env i)->Ig c call t q=fD c call t q.kd)->∃V,WrEv c call s q v s1 sl bs V:=by
  intro h Bq;obtain⟨V,hV⟩:=wrOp h;have hr:∀i∈q.kd.reads,i∈q.reads:=fun i hi=>by simp[O.reads,hi]
  refine⟨V,⟨fun i hi hi2=>by rw[<-e1.1,hV.env i hi hi2,e0.1],fun i hi=>by rw[<-e1.1,hV.hd i hi,e0.1],fun i h1 h2=>by rw[<-e1.1,hV.keep i (by rw[<-e0.1]; exact h1) (by rw[<-e0.1]; exact h2),e0.1],fun l hl b hb=>by rw[<-e1.2,hV.heap l hl b hb,e0.2],fun l hl b j h1 h2=>(by
   have:=hV.cell l hl b j h1 h2;unfold uP at this ⊢;rw[e0.2,<-e1.2]; exact this),fun i hi=>by rw[e0.1]; exact hV.v1 i hi,fun l hl b hb xC cs dQ=>hV.v2 l hl b hb xC cs (by rw[<-e0.2]; exact dQ),fun l hl b j h1 h2 h3 cs c0 hb hc=>hV.v3 l hl b j h1 h2 h3 cs c0 (by rw[<-e0.2]; exact hb) hc,fun d u hd qG hds2 hu=>?_⟩⟩
  obtain⟨t0,t2,sl',h1,h2,h3,h4⟩:=hV.go d u (fun h=>hd (hr d h)) qG hds2 hu;have h6:eC (⟨put s0.env d u,s0.H⟩:St) ⟨put s.env d u,s.H⟩:=⟨fun i=>by simp only[bQ,e0.1],e0.2.symm⟩;have hs:eC (⟨put s.env d u,s.H⟩:St) t0:=(h1.trans h6).symm;refine⟨t2,sl',⟨hk,t0,t2,hs,?_,eC.rfl'⟩,h3,h4.trans ⟨fun i=>by simp only[bQ,e1.1],e1.2⟩⟩;rw[Bq t0 fun i hi=>?_]
  ·exact h2
  ·rw[<-hs.1 i];show get (put s.env d u) i=_;rw[bQ,if_neg];intro e; subst e; exact hd hi
 unfold Ig at he;cases hg:q.guard with
 |none=>
   rw[hg] at he;exact op he fun t _=>by unfold Ig; rw[hg]
 |some gp=>
   obtain⟨g,want⟩:=gp;rw[hg] at he;simp only at he;have NZ:g∈q.reads:=by simp[O.reads,hg]
   split at he
   ·rename_i b hb;split at he
    ·rename_i X9;refine op he fun t h1=>?_;unfold Ig;rw[hg];simp only[h1 g NZ,e0.1 g,hb,X9,if_true]
    ·cases he
   ·cases he
   ·cases he
theorem lwOp {s s1:St} {kd:Kd} {v:AV} {b:Nat} (h:fD c call s kd=some (v,s1,.lw b)):(∀t,fD c call t kd=dN c call kd t)/\sO c s kd=none/\p7 c call s kd=some (some (v,s1,.lw b)):=by
 have nc:∀{kd:Kd},dN c call kd s=some (v,s1,.lw b)->sO c s kd=none/\p7 c call s kd=some (some (v,s1,.lw b)):=by
  intro kd h;unfold dN at h;cases hi:sO c s kd with
  |some r=>
    rw[hi] at h;simp only at h;subst h;obtain⟨sl,bs,e|e⟩:=E9 hi<;>cases e
  |none=>
    rw[hi] at h;cases hl:p7 c call s kd with
    |some r=>
      rw[hl] at h;simp only at h;subst h;exact⟨rfl,rfl⟩
    |none=>
      rw[hl] at h;simp only[gP] at h;exfalso;split at h
      ·rename_i r hm;subst h;obtain⟨e,_⟩:=Be hm;cases e
      replace h:=(jX h).resolve_right fun h=>by obtain⟨e,_⟩:=A6 h; cases e
      unfold eT at h
      (repeat' split at h)
      all_goals first
       |(cases h; done)
       |(simp[Gx] at h; done)
       |(simp at h; obtain⟨_,_,h5⟩:=h; revert h5; split<;>simp[Gx]; done)
       |(simp only[af,aF] at h; obtain⟨_,_,h5⟩:=h; split at h5<;>cases h5)
 have ns:∀{s s':St} {k:Nat} {a v:AV},Wo s k a v≠some (s',.lw b):=by
  intro s s' k a v h;unfold Wo BZ at h
  repeat' split at h
  all_goals first
   |(cases h; done)
   |(simp at h; done)
 cases kd
 case call=>exact⟨fun _=>rfl,nc h⟩
 case jM=>exact⟨fun _=>rfl,nc h⟩
 case st k a v=>
  exfalso;simp only[fD] at h;split at h
  ·split at h
   case h_2=>cases h
   rename_i hh;simp only[af,aF] at h;obtain⟨_,_,h5⟩:=h;split at h5
   ·rw[h5] at hh; exact ns hh
   ·cases h5
  ·split at h
   case h_2=>cases h
   rename_i hh;simp only[af,aF] at h;obtain⟨_,_,h5⟩:=h;rw[h5] at hh;exact ns hh
 all_goals
  exfalso;simp only[fD] at h
  (repeat' split at h)
  all_goals first
   |(cases h; done)
   |(simp at h; done)
   |(simp[Gx] at h; done)
   |(simp at h; obtain⟨_,_,h5⟩:=h; rcases Ak _ _ _ with e|⟨b,j,e⟩<;>rw[e] at h5<;>cases h5; done)
   |(simp at h; obtain⟨_,_,h5⟩:=h; rcases AA _ _ with e|⟨_,_,_,_,e⟩<;>rw[e] at h5<;>cases h5; done)
   |(simp at h; obtain⟨_,_,h5⟩:=h; revert h5; split<;>simp)
theorem anK:FD c call:=by
 intro s q v s1 b ⟨hk,s0,t1,e0,he,e1⟩
 have op:fD c call s0 q.kd=some (v,t1,.lw b)->(∀t:St,(∀i∈q.reads,get t.env i=get s.env i)->Ig c call t q=fD c call t q.kd)->∃cs cs',LwEv c call s q v s1 b cs cs':=by
  intro h Bq;obtain⟨jJ,hi,hl⟩:=lwOp h;obtain⟨f,x,es,b',md,q',cs,cs',hkd,h1,h2,h3,h4,h5,h6,h7,h8,h9⟩:=Ai hl;simp only[Fq.lw.injEq] at h9;subst h9;have hin:∀i∈qa (x::es),i∈q.reads:=fun i hi=>by simp[O.reads,hkd,Kd.reads,hi]
  refine⟨cs,cs',⟨by rw[e0.2]; exact h4,?_,fun t ht hbt=>?_⟩⟩
  ·refine e1.symm.trans ?_;rw[h8];exact⟨fun i=>(e0.1 i).symm,by show s0.H.set b (some cs')=s.H.set b (some cs'); rw[e0.2]⟩
  ·refine⟨hk,t,⟨t.env,t.H.set b (some cs')⟩,eC.rfl',?_,eC.rfl'⟩;rw[Bq t ht,jJ];unfold dN;rw[Bn hi t]
   have bE:p7 c call t q.kd=some (some (v,⟨t.env,t.H.set b (some cs')⟩,.lw b)):=by
    have e2:bq c t.env x=bq c s0.env x:=cz fun i hi=>by rw[ht i (hin i (by simp[qa,hi])),e0.1 i]
    have e3:dK c t.env es=dK c s0.env es:=im fun i hi=>by rw[ht i (hin i (by simp[qa,hi])),e0.1 i]
    rw[hkd];unfold p7;simp only;rw[if_pos h1];unfold locV;rw[e2,e3,h2];simp only[h3,hbt];rw[if_pos h5,h6];simp only;rw[if_pos h7]
   rw[bE]
 unfold Ig at he;cases hg:q.guard with
 |none=>
   rw[hg] at he;exact op he fun t _=>by unfold Ig; rw[hg]
 |some gp=>
   obtain⟨g,want⟩:=gp;rw[hg] at he;simp only at he;have NZ:g∈q.reads:=by simp[O.reads,hg]
   split at he
   ·rename_i b hb;split at he
    ·rename_i X9;refine op he fun t h1=>?_;unfold Ig;rw[hg];simp only[h1 g NZ,e0.1 g,hb,X9,if_true]
    ·cases he
   ·cases he
   ·cases he
theorem amQ (dy:fy P c) (Gt:QD P c call):Nr P c call:=adn dy Gt (amR ajC ani anK)
end
end Go.Bm

/- The end of a function that sees boxes of others. -/
namespace Go.Bm
open Go.Am
mutual
theorem Li {o o':Rt->Option (Nat × List AV)} {nb Pu:Nat} (hn:nb<=Pu):∀x,fW x=true->cS o nb x->cS o' Pu x
 |.ptr b off,_,h=>by simp only[cS] at h ⊢; omega
 |.agg cs,hp,h=>by simp only[fW] at hp; simp only[cS] at h ⊢; exact EB hn cs hp h
 |.dR cs,hp,h=>by simp only[fW] at hp; simp only[cS] at h ⊢; exact EB hn cs hp h
 |.func f a b,hp,h=>by simp only[fW,ae] at hp; simp only[cS] at h ⊢; exact⟨EB hn a hp.1 h.1,EB hn b hp.2 h.2.1,h.2.2⟩
 |.own _ _,hp,_=>by simp[fW] at hp
 |.dX _ _ _ _,hp,_=>by simp[fW] at hp
 |.fG _ _ _ _,hp,_=>by simp[fW] at hp
 |.sl _ b _ _,_,h=>by simp only[cS] at h ⊢; omega
 |.any,_,_=>trivial|.undef,_,_=>trivial|.fY,_,_=>trivial|.gh,_,_=>trivial|.dC,_,_=>trivial
 |.int _ _,_,_=>trivial|.bool _,_,_=>trivial|.str _,_,_=>trivial|.list _ _,_,_=>trivial|.dG _,_,_=>trivial
theorem EB {o o':Rt->Option (Nat × List AV)} {nb Pu:Nat} (hn:nb<=Pu):∀xs,dm xs=true->mw o nb xs->mw o' Pu xs
 |[],_,_=>trivial
 |x::r,hp,h=>by simp only[dm,ae] at hp; exact⟨Li hn x hp.1 h.1,EB hn r hp.2 h.2⟩
end
theorem Bb {x:AV} (h:fW x=true):bY x=false:=by
 cases x<;>first|rfl|(simp[fW] at h; done)|skip
 rename_i cs;simp only[fW] at h;simp only[bY]
 induction cs with
 |nil=>rfl
 |cons y r ih=>
   simp only[dm,ae] at h;have h1:=h.1;cases y<;>first|exact ih h.2|(simp[fW] at h1; done)
theorem Rw:lX jC:=by
 intro k r o l;cases r<;>exact⟨⟨(fun cs e=>by cases e),(fun k xs e=>by cases e)⟩,⟨(fun cs e=>by cases e),(fun k xs e=>by cases e)⟩⟩
section
variable {P:Program} {X:Nat->Prop} {φ l5 φ':dx} {w w1 w':World} {N N1 N':Names} {s s' s1:St} {Ha:Heap} {B:Nat->Nat} {base:Nat} {v va:AV} {v':Value} {c:eS} {a:Act} {call:Nat->List AV->Heap->Option (AV × Heap)} {t:Nat->Value}
theorem abb {s s':St} (h:s'.H=s.H) (b j:Nat):aB s' (.c b j)=aB s (.c b j):=by simp only[aB,at_,h]
theorem xl (r:AV) (i:Nat):get [(0,r)] i=if i=0 then r else .any:=by simp only[Am.get]
theorem ff.leave (h:ff X φ w N s Ha t) {i0:Nat} {r:AV} (hr:get s.env i0=r) (hp:fW r=true):ff X φ w N ⟨[(0,r)],gK jC s.H⟩ Ha (fun i=>if i=0 then t i0 else undef):=by
 have iF:=Bb hp
 have slot:∀i,(∀k xs,get [(0,r)] i≠.own k xs)/\(aB ⟨[(0,r)],gK jC s.H⟩ (.s i)=none/\∀ j,aB ⟨[(0,r)],gK jC s.H⟩ (.sc i j)=none):=by
  intro i
  have h0:bY (get (⟨[(0,r)],gK jC s.H⟩:St).env i)=false:=by
   show bY (get [(0,r)] i)=false;rw[xl]; split
   ·exact iF
   ·rfl
  refine⟨fun k xs e=>?_,eB h0⟩;have h1:bY (get [(0,r)] i)=false:=h0;rw[e] at h1; cases h1
 have box:∀b j,aB ⟨[(0,r)],gK jC s.H⟩ (.c b j)=aB s (.c b j):=fun b j=>by
  rw[<-iX Rw s (.c b j)];exact abb rfl b j
 have own:∀{p},(aB ⟨[(0,r)],gK jC s.H⟩ p).isSome->aB ⟨[(0,r)],gK jC s.H⟩ p=aB s p/\∃ b j,p=.c b j:=by
  intro p hp;cases p with
  |s i=>rw[(slot i).2.1] at hp; cases hp
  |sc i j=>rw[(slot i).2.2 j] at hp; cases hp
  |c b j=>exact⟨box b j,b,j,rfl⟩
 have hlen:(gK jC s.H).length=s.H.length:=fX _ _;have back:∀b,(aH (gK jC s.H) b).isSome->(aH s.H b).isSome:=fun b hb=>by rw[fR] at hb; simpa using hb
 have hl:∀k p a l,(cS (aB s) s.H.length (.dX k p a l)->cS (aB ⟨[(0,r)],gK jC s.H⟩) s.H.length (jC (.dX k p a l))/\Le (cU N (jC (.dX k p a l))) (cU N (.dX k p a l)))/\(cS (aB s) s.H.length (.fG k p a l)->cS (aB ⟨[(0,r)],gK jC s.H⟩) s.H.length (jC (.fG k p a l))/\Le (cU N (jC (.fG k p a l))) (cU N (.fG k p a l))):=by
  intro k p a l;cases p with
  |s i=>exact⟨fun _=>⟨trivial,Le.any _⟩,fun _=>⟨trivial,Le.any _⟩⟩
  |sc i j=>exact⟨fun _=>⟨trivial,Le.any _⟩,fun _=>⟨trivial,Le.any _⟩⟩
  |c b j=>
    refine⟨fun h=>⟨?_,Le.refl _⟩,fun h=>⟨?_,Le.refl _⟩⟩
    ·simp only[jC,cS] at h ⊢; rw[box]; exact h
    ·simp only[jC,cS] at h ⊢; rw[box]; exact h
 refine⟨fun i=>?_,fun i=>?_,h.heap,fun p k xs e=>?_,fun b cs e=>?_,fun p q n e1 e2 e3 e4=>?_,fun b p e1 e2 e3=>?_,fun b d e1 e2 e3=>h.bi b d (back b e1) (back d e2) e3⟩
 ·show bR _ _ (lZ N i (get [(0,r)] i)) (if i=0 then t i0 else undef);rw[xl];by_cases e:i=0
  ·subst e;simp only[if_true];have:=h.env i0;rw[hr,A3 N i0 iF] at this;rw[A3 N 0 iF];exact this
  ·rw[if_neg e,if_neg e]; exact .any _ _
 ·show cS _ _ (get [(0,r)] i);rw[xl,hlen];split
  ·have:=h.IL i0;rw[hr] at this;exact Li (aJ _) r hp this
  ·trivial
 ·have:=own (p:=p) (by rw[e]; rfl);rw[this.1] at e;exact h.own p k xs e
 ·have hb:aH (gK jC s.H) b=some cs:=e;rw[fR] at hb;cases hc:aH s.H b with
  |none=>rw[hc] at hb; cases hb
  |some ds=>
    rw[hc] at hb;simp at hb;subst hb;obtain⟨as,g1,g2,g3⟩:=h.box b ds hc;refine⟨as,g1,by rw[cQ]; exact g2,fun j d hd=>?_⟩;rw[fc] at hd;cases hj:ds[j]? with
    |none=>rw[hj] at hd; cases hd
    |some d0=>
      rw[hj] at hd;simp at hd;subst hd;obtain⟨g4,a',g5,g6⟩:=g3 j d0 hj;obtain⟨k1,k2⟩:=oJ (N:=N) (N':=N) (o:=aB s) (o':=aB ⟨[(0,r)],gK jC s.H⟩) (nb:=s.H.length) (g:=jC) rfl Rw hl (r:=.c b j) (x:=d0) (fun _ _ _=>rfl) g4;refine⟨?_,a',g5,k2.trans g6⟩;show cS _ (gK jC s.H).length _;rw[hlen]; exact k1
 ·rw[(own e1).1] at e1;rw[(own e2).1] at e2;exact h.inj p q n e1 e2 e3 e4
 ·have e2':(aB s p).isSome:=by rw[<-(own e2).1]; exact e2
  exact h.bx b p (back b e1) e2' e3
theorem SS {env:Env} {base:Nat}:∀(n:Nat) (H:Heap),base<=H.length->base<=(trim base env n H).length:=by
 intro n
 induction n with
 |zero=>intro H h; exact h
 |succ n ih=>
   intro H h;simp only[trim];split
   ·exact ih _ (by simp; omega)
   ·exact h
theorem ff.Yo {H:Heap} {r1 r2:AV} (h:ff X φ w N ⟨[(0,r1)],H⟩ Ha t) (h1:fW r1=true) (h2:fW r2=true) (hk:cS (fun _=>none) H.length r2) (hr:bR (Rd X φ w) φ (cU N r2) v'):ff X φ w N ⟨[(0,r2)],H⟩ Ha (fun i=>if i=0 then v' else undef):=by
 have slot:∀{r:AV},fW r=true->∀i,bY (get (⟨[(0,r)],H⟩:St).env i)=false:=fun{r} hp i=>by
  show bY (get [(0,r)] i)=false;rw[xl]; split
  ·exact Bb hp
  ·rfl
 have own:∀p,aB ⟨[(0,r2)],H⟩ p=aB ⟨[(0,r1)],H⟩ p:=by
  intro p;cases p with
  |s i=>rw[(eB (slot h2 i)).1,(eB (slot h1 i)).1]
  |sc i j=>rw[(eB (slot h2 i)).2 j,(eB (slot h1 i)).2 j]
  |c b j=>exact abb rfl b j
 refine⟨fun i=>?_,fun i=>?_,h.heap,fun p k xs e=>?_,fun b cs e=>?_,fun p q n e1 e2=>?_,fun b p e1 e2=>?_,h.bi⟩
 ·show bR _ _ (lZ N i (get [(0,r2)] i)) (if i=0 then v' else undef);rw[xl];by_cases e:i=0
  ·rw[if_pos e,if_pos e,A3 N i (Bb h2)]; exact hr
  ·rw[if_neg e,if_neg e]; exact .any _ _
 ·show cS _ _ (get [(0,r2)] i);rw[xl];split
  ·exact Li (aJ _) r2 h2 hk
  ·trivial
 ·rw[own] at e; exact h.own p k xs e
 ·obtain⟨as,g1,g2,g3⟩:=h.box b cs e;refine⟨as,g1,g2,fun j c hc=>⟨j7 (fun p _=>own p) (aJ _) c (g3 j c hc).1,(g3 j c hc).2⟩⟩
 ·rw[own] at e1 e2; exact h.inj p q n e1 e2
 ·rw[own] at e2; exact h.bx b p e1 e2
theorem ff.ane {env:Env} {H:Heap} (h:ff X φ w N ⟨env,H⟩ Ha t) {n k:Nat} {xs:List AV} (ho:rF Ha (some n) k xs) (hz:∀g sz,φ[n]?=some (some (g,sz))->0<sz) (hnq:∀q,(aB ⟨env,H⟩ q).isSome->N.ν q≠some n) (Vn:∀b,(aH H b).isSome->N.β b≠n) :
  ∃ Ha',ff X φ w ⟨fun c=>if c=H.length then n else N.β c,N.ν⟩ ⟨env,H++[some (aC xs)]⟩ Ha' t/\(∀m,m≠n->aH Ha' m=aH Ha m)/\∀ q,aB ⟨env,H++[some (aC xs)]⟩ q=aB ⟨env,H⟩ q:=by
 obtain⟨cs,c1,c2,c3,c4⟩:=ho;have Qi:=gV c3;have bE:=dU c1;have Iq:∀m,m≠n->aH (Ha.set n (some (cs.take (xs.length*k)))) m=aH Ha m:=fun m hm=>by rw[dH,if_neg (fun e=>hm e.1)]
 have fg:∀b,b<H.length->(if b=H.length then n else N.β b)=N.β b:=fun b hb=>if_neg (by omega)
 have eZ:∀q,aB ⟨env,H++[some (aC xs)]⟩ q=aB ⟨env,H⟩ q:=by
  intro q;cases q with
  |s i=>rfl
  |sc i j=>rfl
  |c b j=>
    by_cases hb:b=H.length
    ·subst hb
     have e0:aB ⟨env,H⟩ (.c H.length j)=none:=by
      have:aH H H.length=none:=by
       cases e:aH H H.length with
       |none=>rfl
       |some cs=>have:=dU e; omega
      simp[aB,at_,this]
     rw[e0];unfold aB at_;simp only[fQ,if_true];cases e:(aC xs)[j]? with
     |none=>rfl
     |some d=>
       have hd:=(my (c4 j d e).1).1;cases d<;>first|rfl|(simp[pl] at hd; done)
    ·exact iW (by simp only[at_,fQ,if_neg hb])
 have mono:∀p,(aB ⟨env,H⟩ p).isSome->aB ⟨env,H++[some (aC xs)]⟩ p=aB ⟨env,H⟩ p:=fun p _=>eZ p;have hlen:H.length<=(H++[some (aC xs)]).length:=by simp
 have bold:∀{b},(aH (H++[some (aC xs)]) b).isSome->(b<H.length/\(aH H b).isSome)\/b=H.length:=by
  intro b hb;rw[fQ] at hb;by_cases e:b=H.length
  ·exact .inr e
  ·rw[if_neg e] at hb;obtain⟨cs,e2⟩:=bf.1 hb;exact .inl ⟨dU e2,hb⟩
 have hh:cm X φ w (Ha.set n (some (cs.take (xs.length*k)))):=by
  refine⟨by rw[cF]; exact h.heap.len,h.heap.GR,fun b ds hb=>?_,fun b hb=>?_,h.heap.inj⟩
  ·rw[aU] at hb;split at hb
   ·rename_i e;subst e;simp at hb;obtain⟨_,rfl⟩:=hb;obtain⟨g,sz,arr,e,p1,p2,p3,p4,p5,p6⟩:=h.heap.live n cs (uM c1);refine⟨g,sz,arr,e,p1,p2,p3,⟨by rw[bD]; omega,fun z=>by have:=hz g sz p1; omega⟩,p5,fun i d hd=>?_⟩;rw[bT] at hd;split at hd
    ·exact p6 i d hd
    ·cases hd
   ·exact h.heap.live b ds hb
  ·rw[aU] at hb;split at hb
   ·simp at hb
   ·exact h.heap.dead b hb
 refine⟨_,⟨fun i=>?_,fun i=>j7 mono hlen _ (h.IL i),hh,fun p k' ys e=>?_,fun b ds e=>?_,fun p q m e1 e2 e3 e4=>?_,fun b p e1 e2 e3=>?_,fun b d e1 e2 e3=>?_⟩,Iq,eZ⟩
 ·rw[Cj (N:=N) (N':=⟨fun c=>if c=H.length then n else N.β c,N.ν⟩) fg (fun _ _=>rfl) rfl (fun _=>rfl) (h.IL i)];exact h.env i
 ·rw[eZ] at e;refine (h.own p k' ys e).same fun m hm=>Iq m fun e2=>?_;exact hnq p (by rw[e]; rfl) (by rw[<-e2]; exact hm)
 ·by_cases hb:b=H.length
  ·subst hb;simp only[fQ,if_true,af] at e;subst e;refine⟨cs.take (xs.length*k),by simp only[if_true]; rw[dH,if_pos ⟨rfl,bE⟩],by rw[bD,Qi]; omega,fun j d hd=>?_⟩;obtain⟨q1,a,q2,q3,q4⟩:=c4 j d hd;have oS:=(my q1).1;have hj:=az hd;rw[Qi] at hj;refine⟨wv d oS,a,by rw[bT,if_pos hj]; exact q2,?_⟩
   have e1:∀N:Names,jG N (.c H.length j) d=d:=fun N=>by
    have:=mj N d oS;cases d<;>first|exact this|(simp[pl] at oS; done)
   rw[e1]; exact q4
  ·simp only[fQ,if_neg hb] at e;obtain⟨as,g1,g2,g3⟩:=h.box b ds e;refine⟨as,by simp only[fg b (dU e)]; rw[Iq _ (Vn b (by show (aH H b).isSome=true; rw[show aH H b=some ds from e]; rfl))]; exact g1,g2,fun j x hx=>?_⟩;obtain⟨k1,a',k2,k3⟩:=g3 j x hx;refine⟨j7 mono hlen x k1,a',k2,?_⟩;rw[wW (N:=N) (N':=⟨fun c=>if c=H.length then n else N.β c,N.ν⟩) fg (fun _ _=>rfl) (fun _ _ _=>rfl) k1];exact k3
 ·rw[eZ] at e1 e2; exact h.inj p q m e1 e2 e3 e4
 ·rw[eZ] at e2;rcases bold e1 with⟨b1,b2⟩|b1
  ·simp only[fg b b1] at e3; exact h.bx b p b2 e2 e3
  ·subst b1;simp only[if_true] at e3;exact hnq p e2 e3
 ·rcases bold e1 with⟨b1,b2⟩|b1<;>rcases bold e2 with⟨d1,d2⟩|d1
  ·simp only[fg b b1,fg d d1] at e3; exact h.bi b d b2 d2 e3
  ·subst d1; simp only[fg b b1,if_true] at e3; exact absurd e3 (Vn b b2)
  ·subst b1; simp only[fg d d1,if_true] at e3; exact absurd e3.symm (Vn d d2)
  ·rw[b1,d1]
theorem On {env:Env} {base:Nat}:∀(n:Nat) (H:Heap),∃k,trim base env n H=H.take k
 |0,H=>⟨H.length,by simp[trim]⟩
 |n+1,H=>by
   simp only[trim];split
   ·obtain⟨k,e⟩:=On (env:=env) (base:=base) n (H.take n);exact⟨min k n,by rw[e,List.take_take]⟩
   ·exact⟨H.length,by simp⟩
theorem Vc {p:Rt}:∀{l:List Rt},Ao p l=false ↔ p∉l
 |[]=>by simp[Ao]
 |q::r=>by simp only[Ao,fi,decide_eq_false_iff_not,Vc (l:=r),aO,not_or]; exact⟨fun h=>⟨fun e=>h.1 e.symm,h.2⟩,fun h=>⟨fun e=>h.1 e.symm,h.2⟩⟩
theorem V5 (h:ff X φ w N s Ha t) {n0:Nat} {env:Env} {t1:Nat->Value}:∀(cs:List AV) (n:Nat) (used:List Rt) (ys:List AV) (hs:Heap),wJ s n used cs=some (ys,hs)->mw (aB s) s.H.length cs->(∀x∈cs,fW x=true->cS (fun _=>none) n0 x) ->
  ∀ (β1:Nat->Nat) (H1:Heap) (Wx:Heap),ff X φ w ⟨β1,N.ν⟩ ⟨env,H1⟩ Wx t1->n=H1.length->n0<=n->(∀b,b<n0->β1 b=N.β b) ->
   (∀i k xs m,aB s (.s i)=some (k,xs)->N.ν (.s i)=some m->.s i∉used->rF Wx (some m) k xs/\(∀b,(aH H1 b).isSome->β1 b≠m)/\∀ q,(aB ⟨env,H1⟩ q).isSome->N.ν q≠some m) ->
   ∃ Nu Ha2,ff X φ w ⟨Nu,N.ν⟩ ⟨env,H1++hs⟩ Ha2 t1/\(∀b,b<n->Nu b=β1 b)/\ys.length=cs.length/\dm ys=true/\∀ (i:Nat) (x y:AV) (v:Value),cs[i]?=some x->ys[i]?=some y->bR (Rd X φ w) φ (cU N x) v->cS (fun _=>none) (H1++hs).length y/\bR (Rd X φ w) φ (cU ⟨Nu,N.ν⟩ y) v
 |[],n,used,ys,hs,hf,_,_,β1,H1,Wx,h1,hn,hn0,fg,Ff=>by
   simp[wJ] at hf;obtain⟨rfl,rfl⟩:=hf;exact⟨β1,Wx,by simpa using h1,fun _ _=>rfl,rfl,rfl,fun i x y v hx=>by simp at hx⟩
 |x::r,n,used,ys,hs,hf,dy,oS,β1,H1,Wx,h1,hn,hn0,fg,Ff=>by
   have rest:=fun (n':Nat) (u':List Rt) (DQ:List AV) (Vk:Heap) (e:wJ s n' u' r=some (DQ,Vk))=>V5 (n0:=n0) (env:=env) (t1:=t1) h r n' u' DQ Vk e dy.2 (fun y hy=>oS y (by simp[hy]))
   -- a part that needs no box
   have stay:∀{y:AV} {DQ:List AV},wJ s n used r=some (DQ,hs)->ys=y::DQ->fW y=true->(∀Nu:Nat->Nat,(∀b,b<n->Nu b=β1 b)->∀v,bR (Rd X φ w) φ (cU N x) v->cS (fun _=>none) (H1++hs).length y/\bR (Rd X φ w) φ (cU ⟨Nu,N.ν⟩ y) v) ->
     ∃ Nu Ha2,ff X φ w ⟨Nu,N.ν⟩ ⟨env,H1++hs⟩ Ha2 t1/\(∀b,b<n->Nu b=β1 b)/\ys.length=(x::r).length/\dm ys=true/\∀ (i:Nat) (x' y:AV) (v:Value),(x::r)[i]?=some x'->ys[i]?=some y->bR (Rd X φ w) φ (cU N x') v->cS (fun _=>none) (H1++hs).length y/\bR (Rd X φ w) φ (cU ⟨Nu,N.ν⟩ y) v:=by
    intro y DQ e ey hy hyr;subst ey;obtain⟨Nu,Ha2,s2,b2,l2,p2,q2⟩:=rest n used DQ hs e β1 H1 Wx h1 hn hn0 fg Ff;refine⟨Nu,Ha2,s2,b2,by simp[l2],by simp[dm,hy,p2],fun i x' z v hx hz hv=>?_⟩;cases i with
    |zero=>simp at hx hz; subst hx; subst hz; exact hyr Nu b2 v hv
    |succ i=>exact q2 i x' z v (by simpa using hx) (by simpa using hz) hv
   have gen:fW x=true->∀{DQ},wJ s n used r=some (DQ,hs)->ys=x::DQ->_:=fun hp {DQ} e ey=>stay e ey hp fun Nu b2 v hv=>by
    have ho:=oS x (by simp) hp;refine⟨j7 (fun p hp=>by cases hp) (by rw[bO]; omega) x ho,?_⟩;rw[A0 (N:=N) (N':=⟨Nu,N.ν⟩) (o:=fun _=>none) (nb:=n0) (fun b hb=>by show Nu b=N.β b; rw[b2 b (by omega),fg b hb]) (fun p hp=>by cases hp) x ho];exact hv
   by_cases c1:∃k i len,x=.dX k (.s i) 0 len
   ·obtain⟨k,i,len,rfl⟩:=c1;simp only[wJ] at hf;split at hf
    case h_2=>cases hf
    rename_i k' xs hp;split at hf
    case isFalse=>cases hf
    rename_i hc;obtain⟨rfl,rfl,hu⟩:=hc;have hu:=Vc.1 hu;split at hf
    ·rename_i hl0;split at hf
     case h_2=>cases hf
     rename_i DQ Vk e;simp at hf;obtain⟨rfl,rfl⟩:=hf;refine stay e rfl rfl fun Nu b2 v hv=>⟨trivial,?_⟩;have BQ:xs=[]:=List.eq_nil_of_length_eq_zero hl0;subst BQ;simp only[cU,List.length_nil] at hv ⊢;split at hv
     ·cases hv with
      |sl _ _ _ _ _ a cap hb hc hh=>exact .yG _ _ _ _ _ _ (fun _ _=>undef) rfl hc (fun x hx=>by simp at hx) (fun i j x c hx=>by simp at hx) (fun i j x c hx=>by simp at hx)
     ·cases hv; exact .lJ _ _
    ·rename_i hl0;split at hf
     case h_2=>cases hf
     rename_i DQ Vk e;simp at hf;obtain⟨rfl,rfl⟩:=hf;have eZ:=h.own (.s i) k' xs hp;cases lM:N.ν (.s i) with
     |none=>
       rw[lM] at eZ;have:xs=[]:=eZ;subst this;simp at hl0
     |some m=>
       obtain⟨o1,o2,o3⟩:=Ff i k' xs m hp lM hu;obtain⟨Ha',s2,e2,e3⟩:=h1.ane o1 (fun g sz e=>h.aba hp lM e) o3 o2;have lt1:(H1++[some (aC xs)]).length=n+1:=by simp[hn]
       obtain⟨Nu,Ha2,s3,b3,l3,p3,q3⟩:=rest (n+1) (.s i::used) DQ Vk e _ _ _ s2 lt1.symm (by omega) (fun b hb=>by simp only[]; rw[if_neg (by omega)]; exact fg b hb) (fun i2 k2 xs2 m2 z1 z2 z3=>by
        simp only[aO,not_or] at z3;obtain⟨a1,a2,a3⟩:=Ff i2 k2 xs2 m2 z1 z2 z3.2;have hmm:m2≠m:=fun e=>z3.1 (h.inj _ _ m (by rw[z1]; rfl) (by rw[hp]; rfl) (by rw[<-e]; exact z2) lM);refine⟨a1.same fun m' X1=>by cases X1; exact e2 m2 hmm,fun b hb=>?_,fun q hq=>a3 q (by rw[e3] at hq; exact hq)⟩;rw[fQ] at hb;simp only[];split
        ·exact fun e=>hmm e.symm
        ·rename_i qF; rw[if_neg qF] at hb; exact a2 b hb)
       rw[dS] at s3;refine⟨Nu,Ha2,s3,fun b hb=>by rw[b3 b (by omega)]; simp only[]; rw[if_neg (by omega)],by simp[l3],by simp[dm,fW,p3],fun j x' z v hx hz hv=>?_⟩;rw[dS] at q3;cases j with
       |succ j=>exact q3 j x' z v (by simpa using hx) (by simpa using hz) hv
       |zero=>
         simp at hx hz;subst hx; subst hz;refine⟨by simp only[cS]; simp; omega,?_⟩;simp only[cU,lM,Nat.zero_mul] at hv ⊢;have:Nu n=m:=by rw[b3 n (by omega)]; simp only[]; rw[if_pos hn]
         rw[this]; exact hv
   ·rw[wJ] at hf
    ·split at hf
     case isFalse=>cases hf
     rename_i hp;split at hf
     case h_2=>cases hf
     rename_i DQ Vk e;simp at hf;obtain⟨rfl,rfl⟩:=hf;exact gen hp e rfl
    ·exact fun k i len e=>c1 ⟨k,i,len,e⟩
theorem amk {o:Rt->Option (Nat × List AV)} {nb:Nat} {x:AV} (h:cS o nb x):cS o nb (Nw x):=by
 cases x<;>first|exact h|trivial
theorem air {R:Addr->Value->Prop} {x:AV} {v:Value} (r:bR R φ (cU N x) v):bR R φ (cU N (Nw x)) v:=by
 cases x<;>first|exact r|exact .any _ _
theorem ai0 (h:ff X φ w N s Ha (tm a)) (hb:(∀b,b<base->N.β b=B b)/\base<=s.H.length) (hv:bR (Rd X φ w) φ (cU N v) v') (hk:cS (aB s) s.H.length v) {r:AV} {H':Heap} (hf:finX base s v=some (r,H')) :
  ∃ φ',SB X φ' w B base ⟨[(0,r)],H'⟩ (fun i=>if i=0 then v' else undef)/\ft φ w φ' w:=by
 unfold finX at hf;split at hf
 case h_2=>cases hf
 rename_i cs N5;split at hf
 case isFalse=>cases hf
 rename_i hp;split at hf
 case h_2=>cases hf
 rename_i ys hs hbx;simp only[af,aF] at hf;obtain⟨rfl,rfl⟩:=hf;simp only[cS] at hk;have hkL:=gO.1 hk
 -- the parts without what becomes boxes
 have hp0:fW (.dR (cs.map Nw))=true:=hp;have iF:=Bb hp0
 have hk0:cS (aB s) s.H.length (.dR (cs.map Nw)):=by
  simp only[cS];refine gO.2 fun i c hc=>?_;rw[cu] at hc;cases e:cs[i]? with
  |none=>rw[e] at hc; cases hc
  |some x=>rw[e] at hc; simp at hc; subst hc; exact amk (hkL i x e)
 have Vi:bR (Rd X φ w) φ (cU N (.dR (cs.map Nw))) v':=by
  simp only[cU] at hv ⊢;cases hv with
  |dR _ _ vs hl hh=>
    refine .dR _ _ _ (by rw[er] at hl ⊢; simpa using hl) fun i c u hc hu=>?_;rw[oZ,cu] at hc;cases e:cs[i]? with
    |none=>rw[e] at hc; cases hc
    |some x=>
      rw[e] at hc;simp at hc;subst hc;exact air (hh i _ u (by rw[oZ,e]; rfl) hu)
 have h1:=h.leave (i0:=fJ) (r:=.any) N5 rfl;have okp:∀{o:Rt->Option (Nat × List AV)} {nb Pu:Nat} {x:AV},nb<=Pu->fW x=true->cS o nb x->cS (fun _=>none) Pu x:=fun hn hp ho=>Li hn _ hp ho;have h2:=h1.Yo (r2:=.dR (cs.map Nw)) rfl hp0 (okp (by rw[fX]; exact aJ _) hp0 hk0) Vi;have h4:=ff.trim (base0:=base) s.H.length h2;obtain⟨kt,et⟩:=On (env:=[(0,.dR (cs.map Nw))]) (base:=base) s.H.length (gK jC s.H);have QB:=SS (env:=[(0,.dR (cs.map Nw))]) (base:=base) s.H.length (gK jC s.H) (by rw[fX]; exact hb.2);generalize hH1:trim base [(0,.dR (cs.map Nw))] s.H.length (gK jC s.H)=H1 at *
 have back:∀b ds,aH H1 b=some ds->aH (gK jC s.H) b=some ds:=by
  intro b ds e;rw[et,uL] at e;split at e
  ·exact e
  ·cases e
 have box:∀b,(aH H1 b).isSome->(aH s.H b).isSome:=by
  intro b e;obtain⟨ds,e⟩:=bf.1 e;have:=back b ds e;rw[fR] at this;cases hc:aH s.H b with
  |none=>rw[hc] at this; cases this
  |some _=>rfl
 have own1:∀q,(aB ⟨[(0,.dR (cs.map Nw))],H1⟩ q).isSome->(∀i,q≠.s i)/\(aB s q).isSome:=by
  intro q e
  have hs0:∀i,bY (get (⟨[(0,.dR (cs.map Nw))],H1⟩:St).env i)=false:=fun i=>by
   show bY (get [(0,.dR (cs.map Nw))] i)=false;rw[xl]; split
   ·exact iF
   ·rfl
  cases q with
  |s i=>rw[(eB (hs0 i)).1] at e; cases e
  |sc i j=>rw[(eB (hs0 i)).2 j] at e; cases e
  |c b j=>
    refine⟨fun i e=>(by cases e),?_⟩;rw[<-iX Rw s (.c b j)];obtain⟨⟨k0,xs0⟩,e0⟩:=bf.1 e;have e1:=cD.1 e0;simp only[at_] at e1;cases hc:aH H1 b with
    |none=>rw[hc] at e1; cases e1
    |some ds=>
      rw[hc] at e1;have e2:=back b ds hc;have:aB (cB jC s) (.c b j)=some (k0,xs0):=cD.2 (by simp only[at_,cB,e2]; exact e1);rw[this]; rfl
 obtain⟨Nu,Ha2,s2,b2,l2,p2,q2⟩:=V5 h (n0:=H1.length) (env:=[(0,.dR (cs.map Nw))]) cs H1.length [] ys hs hbx hk (fun x hx Hq=>by
  obtain⟨i,hi⟩:=bG hx;have e0:=h4.IL 0;have e1:cS (aB ⟨[(0,.dR (cs.map Nw))],H1⟩) H1.length (.dR (cs.map Nw)):=e0;simp only[cS] at e1;have e2:=gO.1 e1 i (Nw x) (by rw[cu,hi]; rfl);have e3:Nw x=x:=by cases x<;>first|rfl|(simp[fW] at Hq; done)
  rw[e3] at e2;exact okp (aJ _) Hq e2) N.β H1 Ha h4 rfl (aJ _) (fun _ _=>rfl) (fun i k xs m z1 z2 _=>by
  have ho:=h.own (.s i) k xs z1;rw[z2] at ho;refine⟨ho,fun b hb e=>h.bx b (.s i) (box b hb) (by rw[z1]; rfl) (by rw[z2,e]),fun q hq e=>?_⟩;obtain⟨g1,g2⟩:=own1 q hq;exact g1 i (h.inj q (.s i) m g2 (by rw[z1]; rfl) e z2))
 have hr:fW (.dR ys)=true:=p2
 have s3:=s2.Yo (r2:=.dR ys) (v':=v') hp0 hr (by
  simp only[cS];refine gO.2 fun i y hy=>?_;obtain⟨x,hx⟩:=bt (l:=cs) (i:=i) (by have:=az hy; omega);simp only[cU] at hv;cases hv with
  |dR _ _ vs hl hh=>
    obtain⟨u,hu⟩:=cc (l:=vs) (i:=i) (by have:=az hx; rw[er] at hl; omega);exact (q2 i x y u hx hy (hh i _ u (by rw[oZ,hx]; rfl) hu)).1) (by
  simp only[cU] at hv ⊢;cases hv with
  |dR _ _ vs hl hh=>
    refine .dR _ _ _ (by rw[er] at hl ⊢; omega) fun i c u hc hu=>?_;rw[oZ] at hc;cases e:ys[i]? with
    |none=>rw[e] at hc; cases hc
    |some y=>
      rw[e] at hc;simp at hc;subst hc;obtain⟨x,hx⟩:=bt (l:=cs) (i:=i) (by have:=az e; omega);exact (q2 i x y u hx e (hh i _ u (by rw[oZ,hx]; rfl) hu)).2)
 exact⟨φ,⟨_,_,s3,fun b bE=>by show Nu b=B b; rw[b2 b (by omega)]; exact hb.1 b bE,by show base<=(H1++hs).length; rw[bO]; omega⟩,.refl _ _⟩
theorem aiY (h:ff X φ w N s Ha (tm a)) (hb:(∀b,b<base->N.β b=B b)/\base<=s.H.length) (hv:bR (Rd X φ w) φ (cU N v) v') (hk:cS (aB s) s.H.length v) (iF:bY v=false) {r:AV} {H':Heap} (hf:eR base s v=some (r,H')) :
  ∃ φ',SB X φ' w B base ⟨[(0,r)],H'⟩ (fun i=>if i=0 then v' else undef)/\ft φ w φ' w:=by
 unfold eR at hf;split at hf
 case h_2=>cases hf
 rename_i N5;simp only at hf;split at hf
 case isFalse=>cases hf
 rename_i hp;simp only[af,aF] at hf;obtain⟨rfl,rfl⟩:=hf;have xy:=eF.quiet (t:=tm a) h hb hk (oK iF) (by rw[nF N iF]; exact hv);obtain⟨nN,⟨N2,Ha2,QR,xC⟩,a2⟩:=SB.eO (aV v) (xy.put fJ N5);have h3:=QR.leave (i0:=fJ) rfl hp;simp only[if_true] at h3;refine⟨nN,⟨N2,Ha2,?_,xC.1,?_⟩,a2⟩
 ·exact ff.trim (base0:=base) _ h3
 ·exact SS _ _ (by rw[fX]; exact xC.2)
theorem shOK (dy:fy P c) (xz:xQ P c) {n:Nat} (hs:Wh P c n):ShOK P c n:=by
 intro f md q hf hm args H r H' h lN X φ w B vargs hl NA hg;unfold pR at h;split at h
 ·rename_i x Bq;unfold NO at Bq;split at Bq
  case h_2=>cases Bq
  rename_i g SF;rw[h] at Bq;replace h:=Bq;exact xz f g md q SF hf args H r H' (.inl hm) h (fun _=>lN) X φ w B vargs hl NA hg
 ·rw[hf] at h;simp only at h;split at h
  case isFalse=>cases h
  rename_i hle;obtain⟨fn,h1,h2⟩:=dy.fn f md q hf;simp only[cC,ae,decide_eq_true_eq] at h2;obtain⟨⟨⟨⟨hn,anU⟩,_⟩,hres⟩,wG⟩:=h2;split at wG
  case h_2=>cases wG
  rename_i code hb;have Fa:(vargs++tJ (fn.ntmps-vargs.size) undef).size=q.n:=by simp; omega
  have htm:tm { tmps:=vargs++tJ (fn.ntmps-vargs.size) undef,defers:=[] }=fun i=>vargs.getD i undef:=by
   funext i;simp only[tm,bm];by_cases hi:i<vargs.size
   ·rw[Array.getElem?_append_left hi]
   ·rw[Array.getElem?_append_right (by omega),Array.getElem?_replicate];rw[Array.getElem?_eq_none (by omega)];split<;>rfl
  have hS:FC X φ w B H.length ⟨dP 0 args,H⟩ { tmps:=vargs++tJ (fn.ntmps-vargs.size) undef,defers:=[] } q.n:=⟨by rw[htm]; exact NA,rfl,Fa⟩
  have fin:∀{e:Ex} {s:St} {vs:List AV},df c n H.length q.body ⟨dP 0 args,H⟩=some (e,s)->(e=.ret\/e=.normal)->sU c s q.res=some vs->bC md H.length s (qQ vs)=some (r,H')->Calls P f vargs w (Iz X φ w B H.length r H'):=by
   intro e s vs he hre SA X6;refine calls_of_wp h1 hb (hs q.n H.length code q.body _ s e (by omega) wG he X φ w B _ hS hg _ fun a' w' φ' hS' xE=>?_);obtain⟨N,Ha,A7,hbB⟩:=hS'.sb;obtain⟨xas,x1,x2,x3,x4⟩:=adI A7 (hg.oN xE) SA;obtain⟨v,k1,k2⟩:=GV (P:=P) (s:=⟨DR N s.env,Ha⟩) (ts:=a'.tmps) (fun i=>by rw[pN]; exact A7.env i) A7.heap hres x1;unfold bC at X6;rw[hm,if_pos rfl] at X6
   have anW:∃nN,SB X nN w' B H.length ⟨[(0,r)],H'⟩ (fun i=>if i=0 then v else undef)/\ft φ' w' nN w':=by
    split at X6
    ·exact ai0 A7 hbB (x2 _ _ _ k2) x3 X6
    ·exact aiY A7 hbB (x2 _ _ _ k2) x3 x4 X6
   obtain⟨nN,s2,a2⟩:=anW;have:bodyPost P fn (Iz X φ w B H.length r H') .ret a' w':=⟨hS'.defers,v,k1,v,nN,rfl,s2,xE.trans a2⟩;rcases hre with rfl|rfl
   ·exact this
   ·exact this
  split at h
  ·rename_i s he;split at h
   ·rename_i vs SA;exact fin he (.inl rfl) SA h
   ·cases h
  ·rename_i s he;split at h
   ·rename_i vs SA;exact fin he (.inr rfl) SA h
   ·cases h
  ·cases h
end
end Go.Bm

/- A state whose older heap holds no more than what is referred to; calls of functions that share boxes. -/
namespace Go.Bm
open Go.Am
mutual
def jo (G:Nat->Prop):AV->Prop
 |.ptr b _=>G b
 |.sl _ b _ _=>G b
 |.agg cs=>pd G cs
 |.dR cs=>pd G cs
 |.func _ a b=>pd G a/\pd G b
 |_=>True
def pd (G:Nat->Prop):List AV->Prop
 |[]=>True
 |x::r=>jo G x/\pd G r
end
theorem qV {G:Nat->Prop}:∀{cs:List AV},pd G cs ↔ ∀(i:Nat) (c:AV),cs[i]?=some c->jo G c
 |[]=>by simp[pd]
 |x::r=>by
   simp only[pd,qV (cs:=r)];constructor
   ·rintro⟨h1,h2⟩ i c hc;cases i with
    |zero=>simp at hc; exact hc▸h1
    |succ i=>exact h2 i c (by simpa using hc)
   ·intro h;exact⟨h 0 x rfl,fun i c hc=>h (i+1) c (by simpa using hc)⟩
theorem bR.refs {R R':Addr->Value->Prop} (hR:∀a u,R a u->R' a u) {G:Nat->Prop} {φ:dx} {x:AV} {v:Value} (h:bR R φ x v):∀{φ':dx},jo G x->φ.length<=φ'.length->(∀b,G b->∀p,φ'[b]?=some (some p)->φ[b]?=some (some p))->bR R' φ' x v:=by
 induction h with
 |any=>intro φ' _ _ _; exact .any _ _
 |undef=>intro φ' _ _ _; exact .undef _
 |fY=>intro φ' _ _ _; exact .fY _
 |gh=>intro φ' _ _ _; exact .gh _
 |dC=>intro φ' _ _ _; exact .dC _
 |int=>intro φ' _ _ _; exact .int _ _ _
 |bool=>intro φ' _ _ _; exact .bool _ _
 |str=>intro φ' _ _ _; exact .str _ _
 |agg φ cs vs hl h ih=>intro φ' hx hp hb; simp only[jo] at hx; exact .agg _ _ _ hl fun i c v h1 h2=>ih i c v h1 h2 (qV.1 hx i c h1) hp hb
 |dR φ cs vs hl h ih=>intro φ' hx hp hb; simp only[jo] at hx; exact .dR _ _ _ hl fun i c v h1 h2=>ih i c v h1 h2 (qV.1 hx i c h1) hp hb
 |Dg φ b r hb h=>intro φ' hx hp jJ; simp only[jo,pd] at hx; exact .Dg _ _ _ (by omega) fun g sz e=>h g sz (jJ b hx.2.1 _ e)
 |func φ f as va bs vb hy Dz Dy ha hb iha ihb=>intro φ' hx hp Fe; simp only[jo] at hx; exact .func _ _ _ _ _ _ hy Dz Dy (fun i c v h1 h2=>iha i c v h1 h2 (qV.1 hx.1 i c h1) hp Fe) (fun i c v h1 h2=>ihb i c v h1 h2 (qV.1 hx.2 i c h1) hp Fe)
 |yG φ k xs a n cap u hn iN hk hu h ih=>intro φ' _ _ _; exact .yG _ _ _ _ _ _ u hn iN hk (fun i j x c h1 h2=>hR _ _ (hu i j x c h1 h2)) (fun i j x c h1 h2=>(h i j x c h1 h2).mono hR (.refl _))
 |lJ=>intro φ' _ _ _; exact .lJ _ _
 |dG φ cs a u hu h ih=>intro φ' _ _ _; exact .dG _ _ _ u (fun j c h1=>hR _ _ (hu j c h1)) (fun j c h1=>(h j c h1).mono hR (.refl _))
 |ptr φ b off a hb h=>intro φ' hx hp jJ; exact .ptr _ _ _ _ (by omega) fun g sz e=>h g sz (jJ b hx _ e)
 |sl φ k b off len a cap hb hc h=>intro φ' hx hp jJ; exact .sl _ _ _ _ _ _ _ (by omega) hc fun g sz e=>h g sz (jJ b hx _ e)
mutual
theorem QX {G:Nat->Prop} {N:Names} {o:Rt->Option (Nat × List AV)} {nb:Nat} (fg:∀b,b<nb->G (N.β b)) (lM:∀p,(o p).isSome->∀n,N.ν p=some n->G n):∀x,cS o nb x->jo G (cU N x)
 |.dX k p off len,h=>by
   simp only[cS] at h; obtain⟨xs,e,_⟩:=h;simp only[cU];cases hn:N.ν p with
   |none=>exact trivial
   |some n=>exact lM p (by rw[e]; rfl) n hn
 |.fG k p i off,h=>by
   simp only[cS] at h; obtain⟨xs,e,_⟩:=h;simp only[cU];cases hn:N.ν p with
   |none=>exact trivial
   |some n=>exact lM p (by rw[e]; rfl) n hn
 |.ptr b off,h=>by simp only[cS] at h; simp only[cU,jo]; exact fg b h
 |.agg cs,h=>by simp only[cS] at h; simp only[cU,jo]; exact zx fg lM cs h
 |.dR cs,h=>by simp only[cS] at h; simp only[cU,jo]; exact zx fg lM cs h
 |.func f a b,h=>by simp only[cS] at h; simp only[cU,jo]; exact⟨zx fg lM a h.1,zx fg lM b h.2.1⟩
 |.any,_=>trivial|.undef,_=>trivial|.fY,_=>trivial|.gh,_=>trivial|.dC,_=>trivial
 |.int _ _,_=>trivial|.bool _,_=>trivial|.str _,_=>trivial|.list _ _,_=>trivial|.dG _,_=>trivial|.own _ _,_=>trivial
 |.sl _ b _ _,h=>by simp only[cS] at h; simp only[cU,jo]; exact fg b h
theorem zx {G:Nat->Prop} {N:Names} {o:Rt->Option (Nat × List AV)} {nb:Nat} (fg:∀b,b<nb->G (N.β b)) (lM:∀p,(o p).isSome->∀n,N.ν p=some n->G n):∀xs,mw o nb xs->pd G (mX N xs)
 |[],_=>trivial
 |x::r,h=>⟨QX fg lM x h.1,zx fg lM r h.2⟩
end
mutual
theorem Zn {G:Nat->Prop}:∀x,pl x=true->jo G x
 |.agg cs,h=>by simp only[pl] at h; simp only[jo]; exact zy cs h
 |.dR cs,h=>by simp only[pl] at h; simp only[jo]; exact zy cs h
 |.func f a b,h=>by simp only[pl,ae] at h; simp only[jo]; exact⟨zy a h.2.1,zy b h.2.2⟩
 |.ptr _ _,h=>by simp[pl] at h
 |.sl _ _ _ _,h=>by simp[pl] at h
 |.dX _ _ _ _,_=>trivial|.fG _ _ _ _,_=>trivial
 |.any,_=>trivial|.undef,_=>trivial|.fY,_=>trivial|.gh,_=>trivial|.dC,_=>trivial
 |.int _ _,_=>trivial|.bool _,_=>trivial|.str _,_=>trivial|.list _ _,_=>trivial|.dG _,_=>trivial|.own _ _,_=>trivial
theorem zy {G:Nat->Prop}:∀xs,dc xs=true->pd G xs
 |[],_=>trivial
 |x::r,h=>by simp only[dc,ae] at h; exact⟨Zn x h.1,zy r h.2⟩
end
theorem aed {G:Nat->Prop} {N:Names} {o:Rt->Option (Nat × List AV)} {nb:Nat} (fg:∀b,b<nb->G (N.β b)) (lM:∀p,(o p).isSome->∀n,N.ν p=some n->G n) {r:Rt} {x:AV} (hr:∀k xs,x=.own k xs->(o r).isSome) (h:cS o nb x):jo G (jG N r x):=by
 cases x<;>simp only[jG]<;>first|exact QX fg lM _ h|skip
 rename_i k xs;simp only[sN];cases hn:N.ν r with
 |none=>exact trivial
 |some n=>exact lM r (hr k xs rfl) n hn
mutual
theorem IM {o o':Rt->Option (Nat × List AV)} {nb Pu:Nat} (hn:nb<=Pu):∀x,(∀p∈aV x,o' p=o p)->cS o nb x->cS o' Pu x
 |.dX k p off len,ho,h=>by simp only[cS] at h ⊢; obtain⟨xs,e,h2⟩:=h; exact⟨xs,by rw[ho p (by simp[aV])]; exact e,h2⟩
 |.fG k p i off,ho,h=>by simp only[cS] at h ⊢; obtain⟨xs,e,h2⟩:=h; exact⟨xs,by rw[ho p (by simp[aV])]; exact e,h2⟩
 |.ptr b off,_,h=>by simp only[cS] at h ⊢; omega
 |.agg cs,ho,h=>by simp only[cS] at h ⊢; exact EL hn cs (by simpa only[aV] using ho) h
 |.dR cs,ho,h=>by simp only[cS] at h ⊢; exact EL hn cs (by simpa only[aV] using ho) h
 |.func f a b,ho,h=>by
   simp only[aV,aI] at ho;simp only[cS] at h ⊢; exact⟨EL hn a (fun p hp=>ho p (.inl hp)) h.1,EL hn b (fun p hp=>ho p (.inr hp)) h.2.1,h.2.2⟩
 |.any,_,_=>trivial|.undef,_,_=>trivial|.fY,_,_=>trivial|.gh,_,_=>trivial|.dC,_,_=>trivial
 |.int _ _,_,_=>trivial|.bool _,_,_=>trivial|.str _,_,_=>trivial|.list _ _,_,_=>trivial|.dG _,_,_=>trivial|.own _ _,_,_=>trivial
 |.sl _ b _ _,_,h=>by simp only[cS] at h ⊢; omega
theorem EL {o o':Rt->Option (Nat × List AV)} {nb Pu:Nat} (hn:nb<=Pu):∀xs,(∀p∈dz xs,o' p=o p)->mw o nb xs->mw o' Pu xs
 |[],_,_=>trivial
 |x::r,ho,h=>by
   simp only[dz,aI] at ho;exact⟨IM hn x (fun p hp=>ho p (.inl hp)) h.1,EL hn r (fun p hp=>ho p (.inr hp)) h.2⟩
end
theorem FA:∀{H:Heap},fx H=true->(∀b,b<H.length->(aH H b).isSome)/\∀ b cs,aH H b=some cs->∀p∈dz cs,cN p=false
 |[],_=>⟨fun b hb=>by simp at hb,fun b cs h=>by simp[aH] at h⟩
 |none::r,h=>by simp[fx] at h
 |some ds::r,h=>by
   simp only[fx,ae,bN] at h;obtain⟨h1,h2⟩:=FA h.2;refine⟨fun b hb=>?_,fun b cs hb=>?_⟩
   ·cases b with
    |zero=>simp[aH]
    |succ b=>have:=h1 b (by simpa using hb); simpa[aH] using this
   ·cases b with
    |zero=>
      simp[aH] at hb;subst hb;intro p hp;exact lU h.1 p hp
    |succ b=>exact h2 b cs (by simpa[aH] using hb)
section
variable {P:Program} {X:Nat->Prop} {φ l5 φ':dx} {w w1 w':World} {N N1 N':Names} {s s' s1:St} {Ha:Heap} {B:Nat->Nat} {base:Nat} {v va:AV} {v':Value} {c:eS} {a:Act} {call:Nat->List AV->Heap->Option (AV × Heap)} {t:Nat->Value}
structure Norm (X:Nat->Prop) (φ:dx) (w:World) (N:Names) (s:St) (t:Nat->Value) (nN:dx) (H2:Heap):Prop where
 A7:ff (fun g=>X g\/(bU φ g/\¬ bU nN g)) nN w N s H2 t
 oN:ft φ w nN w
 good:∀n,(aH H2 n).isSome->(∃b,(aH s.H b).isSome/\N.β b=n)\/∃ p,(aB s p).isSome/\N.ν p=some n
 refs:∀n cs,aH H2 n=some cs->∀c∈cs,jo (fun m=>(aH H2 m).isSome) c
 sub:∀(n:Nat) (p:Nat × Nat),nN[n]?=some (some p)->φ[n]?=some (some p)
 live:∀(n:Nat) (p:Nat × Nat),nN[n]?=some (some p)->(aH H2 n).isSome
 len:nN.length=φ.length
theorem ff.norm (h:ff X φ w N s Ha t) (lN:∀b,b<s.H.length->(aH s.H b).isSome):∃nN H2,Norm X φ w N s t nN H2:=by
 have hP:∀n,∃B:Wy,(∀b cs,aH s.H b=some cs->N.β b=n->B=some (WN N (.c b) 0 cs))/\(∀p k xs,aB s p=some (k,xs)->N.ν p=some n->B=some (aC xs))/\(B.isSome->(∃b,(aH s.H b).isSome/\N.β b=n)\/∃ p,(aB s p).isSome/\N.ν p=some n):=by
  intro n;by_cases h1:∃b cs,aH s.H b=some cs/\N.β b=n
  ·obtain⟨b,cs,hb,hn⟩:=h1;refine⟨some (WN N (.c b) 0 cs),fun b' cs' jJ SC=>?_,fun p k xs hp SC=>?_,fun _=>.inl ⟨b,by rw[hb]; rfl,hn⟩⟩
   ·have e:=h.bi b b' (by rw[hb]; rfl) (by rw[jJ]; rfl) (by rw[hn,SC]);subst e;rw[hb] at jJ; cases jJ; rfl
   ·exact absurd (by rw[SC,hn]) (h.bx b p (by rw[hb]; rfl) (by rw[hp]; rfl))
  ·by_cases h2:∃p k xs,aB s p=some (k,xs)/\N.ν p=some n
   ·obtain⟨p,k,xs,hp,hn⟩:=h2;refine⟨some (aC xs),fun b cs hb SC=>absurd ⟨b,cs,hb,SC⟩ h1,fun p' k' xs' Vl SC=>?_,fun _=>.inr ⟨p,by rw[hp]; rfl,hn⟩⟩;have e:=h.inj p p' n (by rw[hp]; rfl) (by rw[Vl]; rfl) hn SC;subst e;rw[hp] at Vl; cases Vl; rfl
   ·exact⟨none,fun b cs hb hn=>absurd ⟨b,cs,hb,hn⟩ h1,fun p k xs hp hn=>absurd ⟨p,k,xs,hp,hn⟩ h2,fun e=>by cases e⟩
 obtain⟨G,hG⟩:=Classical.axiomOfChoice hP;obtain⟨H2,Bp,hH2⟩:=Ay Ha.length G;obtain⟨nN,hlφ,Vf⟩:∃nN:dx,nN.length=φ.length/\∀ m,m<φ.length->nN[m]?=some (if (G m).isSome then (φ[m]?).join else none):=⟨(eP φ.length).map fun m=>if (G m).isSome then (φ[m]?).join else none,by simp,fun m hm=>by simp[hm]⟩;have hlen:=h.heap.len
 have blk2:∀n,n<Ha.length->aH H2 n=G n:=fun n hn=>by
  unfold aH; rw[hH2 n hn]; cases G n<;>rfl
 have sub:∀(n:Nat) (p:Nat × Nat),nN[n]?=some (some p)->φ[n]?=some (some p)/\(G n).isSome:=by
  intro n p hn;have bE:=az hn;rw[hlφ] at bE;rw[Vf n bE] at hn;split at hn
  ·rename_i hg;simp at hn;refine⟨?_,hg⟩;cases e:φ[n]? with
   |none=>rw[e] at hn; cases hn
   |some q=>rw[e] at hn; simp at hn; rw[hn]
  ·simp at hn
 have afi:∀g,bU nN g->bU φ g:=fun g ⟨b,sz,e⟩=>⟨b,sz,(sub b _ e).1⟩;have oN:ft φ w nN w:=⟨rfl,rfl,rfl,aJ _,aJ _,fun g _ iF=>⟨rfl,fun ho=>iF (afi g ho)⟩,⟨by omega,fun b p _ hp=>(sub b p hp).1⟩⟩;have hR:∀a u,Rd X φ w a u->Rd (fun g=>X g\/(bU φ g/\¬ bU nN g)) nN w a u:=fun a u ⟨h1,h2,h3⟩=>⟨fun hx=>hx.elim h1 fun hh=>h2 hh.1,fun ho=>h2 (afi _ ho),h3⟩;have mono:∀{x:AV} {u:Value},bR (Rd X φ w) φ x u->bR (Rd (fun g=>X g\/(bU φ g/\¬ bU nN g)) nN w) nN x u:=fun r=>r.mono hR oN.cL
 have boxG:∀b cs,aH s.H b=some cs->aH H2 (N.β b)=some (WN N (.c b) 0 cs):=fun b cs hb=>by
  rw[blk2 _ (h.uK (by rw[hb]; rfl))];exact (hG (N.β b)).1 b cs hb rfl
 have ownG:∀p k xs n,aB s p=some (k,xs)->N.ν p=some n->aH H2 n=some (aC xs):=fun p k xs n hp hn=>by
  rw[blk2 _ (h.gS (by rw[hp]; rfl) hn)];exact (hG n).2.1 p k xs hp hn
 have amr:∀n,(G n).isSome->n<Ha.length->∀e,φ[n]?=some e->nN[n]?=some e:=fun n hg hn e he=>by
  rw[Vf n (by omega),if_pos hg,he]; rfl
 have agt:cm (fun g=>X g\/(bU φ g/\¬ bU nN g)) nN w H2:=by
  refine⟨by omega,fun g hg=>hg.elim (h.heap.GR g) (fun ho=>(h.heap.gS ho.1).1),fun n cs hn=>?_,fun n hn=>?_,fun n n' g sz pX e1 e2=>h.heap.inj n n' g sz pX (sub _ _ e1).1 (sub _ _ e2).1⟩
  ·have bE:n<Ha.length:=by have:=az hn; omega
   rw[hH2 n bE] at hn;simp only[af] at hn;have hg:(G n).isSome:=by rw[hn]; rfl
   have fin:∀{as:List AV},aH Ha n=some as->(∀(i:Nat) (d:AV),cs[i]?=some d->∃a,as[i]?=some a/\Le d a)->(cs.length<=as.length/\((∀g sz,φ[n]?=some (some (g,sz))->0<sz)\/cs.length=as.length))->∃(g sz:Nat) (arr:Array Value) (o:Obj),nN[n]?=some (some (g,sz))/\w.heap[g]?=some o/\Vw o sz arr/\(cs.length<=arr.size/\(sz=0->cs.length=arr.size))/\¬ (X g\/(bU φ g/\¬ bU nN g))/\∀ (i:Nat) (d:AV),cs[i]?=some d->∃u,arr[i]?=some u/\bR (Rd (fun g=>X g\/(bU φ g/\¬ bU nN g)) nN w) nN d u:=by
    intro as has dQ hle;obtain⟨g,sz,arr,e,g1,g2,g3,g4,g5,g6⟩:=h.heap.at has;have h2:=amr n hg bE _ g1;refine⟨g,sz,arr,e,h2,g2,g3,⟨by omega,fun z=>hle.2.elim (fun hs=>absurd (hs g sz g1) (by omega)) (fun hs=>hs.trans (g4.2 z))⟩,fun hx=>hx.elim g5 fun hh=>hh.2 ⟨n,sz,h2⟩,fun i d hd=>?_⟩;obtain⟨a,ha,hle2⟩:=dQ i d hd;obtain⟨u,u1,u2⟩:=g6 i a ha;exact⟨u,u1,mono (hle2 _ _ _ u2)⟩
   rcases (hG n).2.2 hg with⟨b,hb,hbn⟩|⟨p,hp,NW⟩
   ·obtain⟨ds,qG⟩:=bf.1 hb;have:=(hG n).1 b ds qG hbn;rw[hn] at this;simp at this;subst this;obtain⟨as,a1,a2,a3⟩:=h.box b ds qG;rw[hbn] at a1;refine fin a1 (fun i d hd=>?_) ⟨by rw[gQ]; omega,.inr (by rw[gQ]; omega)⟩;rw[gC] at hd;cases hi:ds[i]? with
    |none=>rw[hi] at hd; cases hd
    |some d0=>
      rw[hi] at hd;simp at hd;subst hd;obtain⟨_,a',b1,b2⟩:=a3 i d0 hi;exact⟨a',b1,b2⟩
   ·obtain⟨⟨k,xs⟩,Hq⟩:=bf.1 hp;have:=(hG n).2.1 p k xs Hq NW;rw[hn] at this;simp at this;subst this;have ho:=h.own p k xs Hq;rw[NW] at ho;obtain⟨cs0,c1,c2,c3,c4⟩:=ho;refine fin c1 (fun i d hd=>?_) ⟨by rw[gV c3]; exact c2,.inl fun g sz e=>h.aba Hq NW e⟩;obtain⟨_,a',b1,_,b2⟩:=c4 i d hd;exact⟨a',b1,b2⟩
  ·have bE:n<Ha.length:=by have:=az hn; omega
   rw[hH2 n bE] at hn;simp only[af] at hn;rw[Vf n (by omega),hn];rfl
 refine⟨nN,H2,⟨⟨fun i=>mono (h.env i),h.IL,agt,fun p k xs e=>?_,fun b cs e=>?_,h.inj,h.bx,h.bi⟩,oN,fun n hn=>?_,fun n cs hn d hd=>?_,fun n p hp=>(sub n p hp).1,fun n p hp=>?_,hlφ⟩⟩
 ·have ho:=h.own p k xs e;cases hn:N.ν p with
  |none=>rw[hn] at ho; exact ho
  |some n=>
    rw[hn] at ho;obtain⟨cs0,c1,c2,c3,c4⟩:=ho;refine⟨aC xs,ownG p k xs n e hn,by rw[gV c3]; exact aJ _,c3,fun i d hd=>?_⟩;obtain⟨f1,_⟩:=c4 i d hd;exact⟨f1,d,hd,(my f1).2,Le.refl _⟩
 ·obtain⟨as,a1,a2,a3⟩:=h.box b cs e;refine⟨_,boxG b cs e,gQ _ _ _ _,fun j d hd=>?_⟩;obtain⟨b1,_⟩:=a3 j d hd;exact⟨b1,jG N (.c b j) d,by rw[gC,hd]; simp,Le.refl _⟩
 ·obtain⟨cs,dQ⟩:=bf.1 hn;have bE:n<Ha.length:=by have:=dU dQ; omega
  exact (hG n).2.2 (by rw[<-blk2 n bE]; exact hn)
 ·have fg:∀b,b<s.H.length->(aH H2 (N.β b)).isSome:=fun b hb=>by
   obtain⟨ds,qG⟩:=bf.1 (lN b hb);rw[boxG b ds qG]; rfl
  have lM:∀p,(aB s p).isSome->∀n,N.ν p=some n->(aH H2 n).isSome:=fun p hp n hn=>by
   obtain⟨⟨k,xs⟩,Hq⟩:=bf.1 hp;rw[ownG p k xs n Hq hn]; rfl
  have bE:n<Ha.length:=by have:=dU hn; omega
  rcases (hG n).2.2 (by rw[<-blk2 n bE,hn]; rfl) with⟨b,hb,hbn⟩|⟨p,hp,NW⟩
  ·obtain⟨ds,qG⟩:=bf.1 hb;have e:=boxG b ds qG;rw[hbn,hn] at e;cases e;obtain⟨j,hj⟩:=bG hd;rw[gC] at hj;cases hi:ds[j]? with
   |none=>rw[hi] at hj; cases hj
   |some d0=>
     rw[hi] at hj;simp at hj;subst hj;obtain⟨as,a1,a2,a3⟩:=h.box b ds qG
     exact aed (o:=aB s) (nb:=s.H.length) fg lM (r:=.c b j) (fun k xs e=>by
      have:aB s (.c b j)=some (k,xs):=cD.2 (by simp only[at_,qG,hi,e]);rw[this]; rfl) (a3 j d0 hi).1
  ·obtain⟨⟨k,xs⟩,Hq⟩:=bf.1 hp;have e:=ownG p k xs n Hq NW;rw[hn] at e;cases e;have ho:=h.own p k xs Hq;rw[NW] at ho;obtain⟨cs0,c1,c2,c3,c4⟩:=ho;obtain⟨j,hj⟩:=bG hd;exact Zn d (my (c4 j d hj).1).1
 ·have bE:n<Ha.length:=by have:=az hp; omega
  rw[blk2 n bE];exact (sub n p hp).2
end
end Go.Bm

/- Calls of functions that share boxes. -/
namespace Go.Bm
open Go.Am
section
variable {P:Program} {X:Nat->Prop} {φ l5 φ':dx} {w w1 w':World} {N N1 N':Names} {s s' s1:St} {Ha:Heap} {B:Nat->Nat} {base:Nat} {v va:AV} {v':Value} {c:eS} {o:Oper} {a:Act} {kd:Kd} {call:Nat->List AV->Heap->Option (AV × Heap)} {t:Nat->Value}
theorem zW:∀{l:List AV},dm l=true->∀(i:Nat) (z:AV),l[i]?=some z->fW z=true
 |[],_,i,z,hz=>by simp at hz
 |y::r,h,i,z,hz=>by
   simp only[dm,ae] at h;cases i with
   |zero=>simp at hz; subst hz; exact h.1
   |succ i=>exact zW h.2 i z (by simpa using hz)
theorem ff.enter (h:ff X φ w N s Ha t) (lN:fx s.H=true) {args:List AV} {vargs:Array Value} (hp:dm args=true) (ho:∀(i:Nat) (x:AV),args[i]?=some x->cS (aB s) s.H.length x) (hr:∀(i:Nat) (x:AV) (v:Value),args[i]?=some x->vargs[i]?=some v->bR (Rd X φ w) φ (cU N x) v) (hl:args.length=vargs.size) :
  ff X φ w N ⟨dP 0 args,s.H⟩ Ha (fun i=>vargs.getD i undef):=by
 have B8:∀i,get (dP 0 args) i=args[i]?.getD .any:=fun i=>by rw[tD]; simp
 have iF:∀i,bY (get (dP 0 args) i)=false:=fun i=>by
  rw[B8];cases e:args[i]? with
  |none=>rfl
  |some x=>exact Bb (zW hp i x e)
 have own:∀{p},(aB ⟨dP 0 args,s.H⟩ p).isSome->∃b j,p=.c b j:=by
  intro p Vl;cases p with
  |s i=>rw[(eB (s:=⟨dP 0 args,s.H⟩) (iF i)).1] at Vl; cases Vl
  |sc i j=>rw[(eB (s:=⟨dP 0 args,s.H⟩) (iF i)).2 j] at Vl; cases Vl
  |c b j=>exact⟨b,j,rfl⟩
 have box:∀b j,aB ⟨dP 0 args,s.H⟩ (.c b j)=aB s (.c b j):=fun b j=>rfl;obtain⟨_,hbor⟩:=FA lN;have agh:∀{p:Rt},cN p=false->∃b j,p=.c b j:=fun{p} hp=>by cases p<;>simp[cN] at hp; exact⟨_,_,rfl⟩
 refine⟨fun i=>?_,fun i=>?_,h.heap,fun p k xs e=>?_,fun b cs e=>?_,fun p q n e1 e2 e3 e4=>?_,fun b p e1 e2 e3=>?_,h.bi⟩
 ·show bR _ _ (lZ N i (get (dP 0 args) i)) _;rw[A3 N i (iF i),B8];cases e:args[i]? with
  |none=>exact .any _ _
  |some x=>
    obtain⟨v,hv⟩:=cc (l:=vargs) (i:=i) (by have:=az e; omega);simp only[Option.getD_some];rw[bm,hv];exact hr i x v e hv
 ·show cS _ _ (get (dP 0 args) i);rw[B8];cases e:args[i]? with
  |none=>trivial
  |some x=>exact Li (aJ _) x (zW hp i x e) (ho i x e)
 ·obtain⟨b,j,rfl⟩:=own (p:=p) (by rw[e]; rfl);exact h.own _ k xs e
 ·obtain⟨as,g1,g2,g3⟩:=h.box b cs e;refine⟨as,g1,g2,fun j d hd=>?_⟩;obtain⟨g4,g5⟩:=g3 j d hd;refine⟨IM (aJ _) d (fun p Vl=>?_) g4,g5⟩;obtain⟨b',j',rfl⟩:=agh (hbor b cs e p (nq hd Vl));rfl
 ·obtain⟨b,j,rfl⟩:=own e1;obtain⟨b',j',rfl⟩:=own e2;exact h.inj _ _ n e1 e2 e3 e4
 ·obtain⟨b',j,rfl⟩:=own e2;exact h.bx b (.c b' j) e1 e2 e3
theorem shared (h:ff X φ w N s Ha t) (hb:(∀b,b<base->N.β b=B b)/\base<=s.H.length) {Yo:Env} {t0:Nat->Value} {nN:dx} {H2:Heap} (hn:Norm X φ w N ⟨Yo,s.H⟩ t0 nN H2) (h0:∀i,bY (get Yo i)=false)
  {r:AV} {H' H1:Heap} {t1:Nat->Value} (gq:ff (fun g=>X g\/(bU φ g/\¬ bU nN g)) l5 w1 N1 ⟨[(0,r)],H'⟩ H1 t1) (ad:ft nN w l5 w1) (fg:∀b,b<s.H.length->N1.β b=N.β b) (hle:s.H.length<=H'.length) (PW:fx H'=true) (hbr:aV r=[]) (iF:bY r=false) :
  ∃ φ',eF X φ' w1 B base ⟨l8 jD s.env,H'⟩ r t (t1 0)/\ft φ w φ' w1:=by
 obtain⟨abX,hbor⟩:=FA PW;have agh:∀{p:Rt},cN p=false->∃b j,p=.c b j:=fun{p} hp=>by cases p<;>simp[cN] at hp; exact⟨_,_,rfl⟩
 obtain⟨Oh,H3,h3⟩:=gq.norm abX;have l3:=h3.A7.heap.len;have l1:=h.heap.len;have l2:=hn.len;have l2h:=hn.A7.heap.len;have pl:AN nN Oh:=ad.cL.trans h3.oN.cL;have hlen:φ.length<=Oh.length:=by have:=pl.len; omega
 have ad2:ft nN w Oh w1:=ad.trans h3.oN
 -- hidden: known to the caller, not to the callee
 let hid:Nat->Bool:=fun n=>decide (n<φ.length)&&!(nN[n]?.join).isSome
 have hid3:∀n,hid n=true->Oh[n]?=some none/\aH H3 n=none:=by
  intro n hh;simp only[hid,ae,decide_eq_true_eq,bN] at hh;obtain⟨bE,hj⟩:=hh;obtain⟨e,he⟩:=bt (l:=Oh) (i:=n) (by omega)
  have h3n:Oh[n]?=some none:=by
   cases e with
   |none=>exact he
   |some p=>
     have:=pl.NP n p (by omega) he;rw[this] at hj; simp at hj
  refine⟨h3n,?_⟩;cases hb3:aH H3 n with
  |none=>rfl
  |some cs=>
    obtain⟨g,sz,arr,ty,g1,_⟩:=h3.A7.heap.at hb3;rw[h3n] at g1; cases g1
 have PC:∀n,(aH H3 n).isSome->hid n=false:=fun n hb3=>by
  cases hh:hid n with
  |false=>rfl
  |true=>rw[(hid3 n hh).2] at hb3; cases hb3
 obtain⟨φ4,hl4,hφ4⟩:∃φ4:dx,φ4.length=Oh.length/\∀ m,m<Oh.length->φ4[m]?=if hid m then φ[m]? else Oh[m]?:=by
  refine⟨(eP Oh.length).map fun m=>if hid m then (φ[m]?).join else (Oh[m]?).join,by simp,fun m hm=>?_⟩;simp only[cu,List.getElem?_range hm,cG];split
  ·rename_i hh;have bE:m<φ.length:=by simp only[hid,ae,decide_eq_true_eq] at hh; exact hh.1
   rw[aj bE]; rfl
  ·rw[aj hm]; rfl
 obtain⟨H4,hlh4,hH4⟩:=Ay H3.length fun m=>if hid m then (Ha[m]?).join else (H3[m]?).join
 have WI:∀n,hid n=true->φ4[n]?=φ[n]?:=fun n hh=>by
  have bE:n<φ.length:=by simp only[hid,ae,decide_eq_true_eq] at hh; exact hh.1
  rw[hφ4 n (by omega),if_pos hh]
 have SO:∀n,hid n=false->φ4[n]?=Oh[n]?:=fun n hh=>by
  by_cases bE:n<Oh.length
  ·rw[hφ4 n bE,hh]; rfl
  ·rw[dO (by omega),dO (by omega)]
 have H4h:∀n,hid n=true->H4[n]?=Ha[n]?:=fun n hh=>by
  have bE:n<φ.length:=by simp only[hid,ae,decide_eq_true_eq] at hh; exact hh.1
  rw[hH4 n (by omega),if_pos hh,aj (by omega)]; rfl
 have H4n:∀n,hid n=false->H4[n]?=H3[n]?:=fun n hh=>by
  by_cases bE:n<H3.length
  ·rw[hH4 n bE,hh,aj bE]; rfl
  ·rw[dO (by omega),dO (by omega)]
 have an7:∀n,hid n=true->aH H4 n=aH Ha n:=fun n hh=>by unfold aH; rw[H4h n hh]
 have akL:∀n,hid n=false->aH H4 n=aH H3 n:=fun n hh=>by unfold aH; rw[H4n n hh]
 have own4:∀{g},bU φ4 g->(∃n sz,hid n=true/\φ[n]?=some (some (g,sz)))\/∃ n sz,hid n=false/\Oh[n]?=some (some (g,sz)):=by
  rintro g ⟨n,sz,e⟩;cases hh:hid n with
  |true=>rw[WI n hh] at e; exact .inl ⟨n,sz,hh,e⟩
  |false=>rw[SO n hh] at e; exact .inr ⟨n,sz,hh,e⟩
 have hidX:∀{n g sz},hid n=true->φ[n]?=some (some (g,sz))->bU φ g/\¬ bU nN g:=by
  intro n g sz hh e;refine⟨⟨n,sz,e⟩,fun⟨m,pX,e'⟩=>?_⟩;have:=h.heap.inj n m g sz pX e (hn.sub m _ e');subst this;simp only[hid,ae,decide_eq_true_eq,bN] at hh;rw[e'] at hh; simp at hh
 have sub2:∀{g},bU nN g->bU φ g:=fun⟨m,sz,e⟩=>⟨m,sz,hn.sub m _ e⟩
 have oN:ft φ w φ4 w1:=by
  refine⟨ad2.os,ad2.tape,ad2.output,ad2.drawn,ad2.size,fun g hg iF=>?_,⟨by omega,fun n p bE hp=>?_⟩⟩
  ·obtain⟨k1,k2⟩:=ad2.keep g hg (fun ho=>iF (sub2 ho));refine⟨k1,fun ho=>?_⟩;rcases own4 ho with⟨n,sz,_,e⟩|⟨n,sz,_,e⟩
   ·exact iF ⟨n,sz,e⟩
   ·exact k2 ⟨n,sz,e⟩
  ·cases hh:hid n with
   |true=>rwa [WI n hh] at hp
   |false=>
     rw[SO n hh] at hp;exact hn.sub n p (pl.NP n p (by omega) hp)
 -- values of the callee
 have hR:∀a u,Rd (fun g=>(X g\/(bU φ g/\¬ bU nN g))\/(bU l5 g/\¬ bU Oh g)) Oh w1 a u->Rd X φ4 w1 a u:=fun a u ⟨p1,p2,p3⟩=>⟨fun hx=>p1 (.inl (.inl hx)),fun ho=>by
  rcases own4 ho with⟨n,sz,hh,e⟩|⟨n,sz,_,e⟩
  ·exact p1 (.inl (.inr (hidX hh e)))
  ·exact p2 ⟨n,sz,e⟩,p3⟩
 have tr34:∀{x:AV} {u:Value},jo (fun m=>(aH H3 m).isSome) x->bR (Rd (fun g=>(X g\/(bU φ g/\¬ bU nN g))\/(bU l5 g/\¬ bU Oh g)) Oh w1) Oh x u->bR (Rd X φ4 w1) φ4 x u:=fun hx r=>bR.refs hR r hx (by omega) fun b hb4 p hp=>by rwa [SO b (PC b hb4)] at hp
 have agt:cm X φ4 w1 H4:=by
  refine⟨by omega,fun g hg=>Nat.lt_of_lt_of_le (h.heap.GR g hg) ad2.size,fun n cs e=>?_,fun n e=>?_,fun n n' g sz pX e1 e2=>?_⟩
  ·cases hh:hid n with
   |true=>
     rw[H4h n hh] at e;obtain⟨g,sz,arr,ty,g1,g2,g3,g4,g5,g6⟩:=h.heap.live n cs e;have hx:=hidX hh g1;refine⟨g,sz,arr,ty,by rw[WI n hh]; exact g1,?_,g3,g4,g5,fun i d hd=>?_⟩
     ·rw[(ad2.keep g (h.heap.gS hx.1).1 hx.2).1]; exact g2
     ·obtain⟨u,u1,u2⟩:=g6 i d hd;exact⟨u,u1,oN.rep u2⟩
   |false=>
     rw[H4n n hh] at e;obtain⟨g,sz,arr,ty,g1,g2,g3,g4,g5,g6⟩:=h3.A7.heap.live n cs e;refine⟨g,sz,arr,ty,by rw[SO n hh]; exact g1,g2,g3,g4,fun hx=>g5 (.inl (.inl hx)),fun i d hd=>?_⟩;obtain⟨u,u1,u2⟩:=g6 i d hd;exact⟨u,u1,tr34 (h3.refs n cs (blk_iff.2 e) d (bp hd)) u2⟩
  ·cases hh:hid n with
   |true=>rw[H4h n hh] at e; rw[WI n hh]; exact h.heap.dead n e
   |false=>rw[H4n n hh] at e; rw[SO n hh]; exact h3.A7.heap.dead n e
  ·have mix:∀{n n' sz pX},hid n=true->hid n'=false->φ[n]?=some (some (g,sz))->Oh[n']?=some (some (g,pX))->False:=by
    intro n n' sz pX hh hh' e1 e2;obtain⟨cs,dQ⟩:=bf.1 (h3.live n' _ e2);obtain⟨g',sz2,arr,ty,g1,_,_,_,g5,_⟩:=h3.A7.heap.at dQ;rw[e2] at g1; cases g1;exact g5 (.inl (.inr (hidX hh e1)))
   cases hh:hid n with
   |true=>
     rw[WI n hh] at e1;cases hh':hid n' with
     |true=>rw[WI n' hh'] at e2; exact h.heap.inj n n' g sz pX e1 e2
     |false=>rw[SO n' hh'] at e2; exact (mix hh hh' e1 e2).elim
   |false=>
     rw[SO n hh] at e1;cases hh':hid n' with
     |true=>rw[WI n' hh'] at e2; exact (mix hh' hh e2 e1).elim
     |false=>rw[SO n' hh'] at e2; exact h3.A7.heap.inj n n' g sz pX e1 e2
 -- names
 let Nb:Names:=⟨N1.β,N.ν⟩
 let N4:Names:=⟨N1.β,fun p=>match p with
  |.c b j=>N1.ν (.c b j)
  |p=>N.ν p⟩
 have afh:∀i,aB ⟨l8 jD s.env,H'⟩ (.s i)=aB s (.s i):=fun i=>by
  rw[<-iX Bh s (.s i)]; rfl
 have Xk:∀i j,aB ⟨l8 jD s.env,H'⟩ (.sc i j)=aB s (.sc i j):=fun i j=>by
  rw[<-iX Bh s (.sc i j)]; rfl
 have anA:∀b j,aB ⟨l8 jD s.env,H'⟩ (.c b j)=aB ⟨[(0,r)],H'⟩ (.c b j):=fun b j=>rfl
 have QQ:∀{p},(aB ⟨l8 jD s.env,H'⟩ p).isSome->((∃b j,p=.c b j)/\aB ⟨l8 jD s.env,H'⟩ p=aB ⟨[(0,r)],H'⟩ p/\N4.ν p=N1.ν p)\/((∀b j,p≠.c b j)/\aB ⟨l8 jD s.env,H'⟩ p=aB s p/\N4.ν p=N.ν p):=by
  intro p hp;cases p with
  |s i=>exact .inr ⟨(fun _ _ e=>by cases e),afh i,rfl⟩
  |sc i j=>exact .inr ⟨(fun _ _ e=>by cases e),Xk i j,rfl⟩
  |c b j=>exact .inl ⟨⟨b,j,rfl⟩,anA b j,rfl⟩
 -- blocks of slots are hidden
 have RO:∀{p n},(∀b j,p≠.c b j)->(aB s p).isSome->N.ν p=some n->hid n=true:=by
  intro p n Kq hp hnu;have bE:n<Ha.length:=h.gS hp hnu;simp only[hid,ae,decide_eq_true_eq,bN];refine⟨by omega,?_⟩;cases e:(nN[n]?).join with
  |none=>rfl
  |some q=>
    exfalso
    have e':nN[n]?=some (some q):=by
     cases e2:nN[n]? with
     |none=>rw[e2] at e; cases e
     |some z=>rw[e2] at e; simp at e; rw[e]
    rcases hn.good n (hn.live n q e') with⟨b,B9,xC⟩|⟨p',hp1,hp2⟩
    ·exact h.bx b p B9 hp (by rw[hnu,<-xC])
    ·have hc:∃b j,p'=.c b j:=by
      cases p' with
      |s i=>rw[(eB (s:=⟨Yo,s.H⟩) (h0 i)).1] at hp1; cases hp1
      |sc i j=>rw[(eB (s:=⟨Yo,s.H⟩) (h0 i)).2 j] at hp1; cases hp1
      |c b j=>exact⟨b,j,rfl⟩
     obtain⟨b,j,rfl⟩:=hc;have:=h.inj p (.c b j) n hp hp1 hnu hp2;exact Kq b j this
 have box3:∀b,(aH H' b).isSome->(aH H3 (N1.β b)).isSome:=fun b jJ=>by
  obtain⟨cs,dQ⟩:=bf.1 jJ;obtain⟨as,a1,_⟩:=h3.A7.box b cs dQ;rw[a1]; rfl
 have own3:∀{p n},(aB ⟨[(0,r)],H'⟩ p).isSome->N1.ν p=some n->(aH H3 n).isSome:=by
  intro p n hp hnu;obtain⟨⟨k,xs⟩,e⟩:=bf.1 hp;have:=h3.A7.own p k xs e;rw[hnu] at this;obtain⟨cs,h1,_⟩:=this;rw[h1]; rfl
 have hl:∀k p a l,(cS (aB s) s.H.length (.dX k p a l)->cS (aB ⟨l8 jD s.env,H'⟩) s.H.length (jD (.dX k p a l))/\Le (cU N4 (jD (.dX k p a l))) (cU Nb (.dX k p a l)))/\(cS (aB s) s.H.length (.fG k p a l)->cS (aB ⟨l8 jD s.env,H'⟩) s.H.length (jD (.fG k p a l))/\Le (cU N4 (jD (.fG k p a l))) (cU Nb (.fG k p a l))):=by
  intro k p a l;cases p with
  |s i=>
    refine⟨fun h=>⟨?_,Le.refl _⟩,fun h=>⟨?_,Le.refl _⟩⟩
    ·simp only[jD,cS] at h ⊢; rw[afh]; exact h
    ·simp only[jD,cS] at h ⊢; rw[afh]; exact h
  |sc i j=>
    refine⟨fun h=>⟨?_,Le.refl _⟩,fun h=>⟨?_,Le.refl _⟩⟩
    ·simp only[jD,cS] at h ⊢; rw[Xk]; exact h
    ·simp only[jD,cS] at h ⊢; rw[Xk]; exact h
  |c b j=>exact⟨fun _=>⟨trivial,Le.any _⟩,fun _=>⟨trivial,Le.any _⟩⟩
 have hsim:ff X φ4 w1 N4 ⟨l8 jD s.env,H'⟩ H4 t:=by
  refine⟨fun i=>?_,fun i=>?_,agt,fun p k xs e=>?_,fun b cs e=>?_,fun p q n e1 e2 e3 e4=>?_,fun b p e1 e2 e3=>?_,fun b d e1 e2 e3=>h3.A7.bi b d e1 e2 e3⟩
  ·show bR _ _ (lZ N4 i (get (l8 jD s.env) i)) _;rw[dF];have r0:=oN.rep (h.env i);have e0:lZ N i (get s.env i)=lZ Nb i (get s.env i):=Cj (N:=Nb) (N':=N) (o:=aB s) (nb:=s.H.length) (fun b jJ=>(fg b jJ).symm) (fun _ _=>rfl) rfl (fun _=>rfl) (h.IL i);rw[e0] at r0;refine af0 (N:=Nb) (N':=N4) (x:=get s.env i) (y:=cW jD (get s.env i)) (fun cs dQ=>⟨dp jD cs,by rw[dQ]; rfl,cQ _ _,fun j c d hc hd=>?_⟩) (fun hna=>⟨oI Bh hna,?_⟩) _ _ _ r0
   ·rw[fc,hc] at hd;simp at hd;subst hd;have dy:=h.IL i;rw[dQ] at dy;simp only[cS] at dy;exact (oJ (N:=Nb) (N':=N4) (o:=aB s) (o':=aB ⟨l8 jD s.env,H'⟩) (nb:=s.H.length) (g:=jD) rfl Bh hl (r:=.sc i j) (fun _ _ _=>rfl) (gO.1 dy j c hc)).2
   ·exact (oJ (N:=Nb) (N':=N4) (o:=aB s) (o':=aB ⟨l8 jD s.env,H'⟩) (nb:=s.H.length) (g:=jD) rfl Bh hl (r:=.s i) (fun _ _ _=>rfl) (h.IL i)).2
  ·show cS _ H'.length (get (l8 jD s.env) i);rw[dF];exact j7 (fun _ _=>rfl) hle _ (Rx (N:=Nb) (N':=N4) (o:=aB s) (o':=aB ⟨l8 jD s.env,H'⟩) (nb:=s.H.length) (g:=jD) rfl Bh hl _ (h.IL i)).1
  ·rcases QQ (p:=p) (by rw[e]; rfl) with⟨⟨b,j,rfl⟩,e1,e2⟩|⟨Kq,e1,e2⟩
   ·rw[e1] at e;rw[e2];exact (h3.A7.own _ k xs e).same fun n hnu=>akL n (PC n (own3 (by rw[e]; rfl) hnu))
   ·rw[e1] at e;rw[e2];exact (h.own p k xs e).same fun n hnu=>an7 n (RO Kq (by rw[e]; rfl) hnu)
  ·obtain⟨as,a1,a2,a3⟩:=h3.A7.box b cs e;refine⟨as,by show aH H4 (N1.β b)=_; rw[akL _ (PC _ (by rw[a1]; rfl))]; exact a1,a2,fun j d hd=>?_⟩;obtain⟨b1,a',b2,b3⟩:=a3 j d hd;have hbx:∀p∈aV d,∃b j,p=.c b j:=fun p hp=>agh (hbor b cs e p (nq hd hp));refine⟨IM (aJ _) d (fun p hp=>?_) b1,a',b2,?_⟩
   ·obtain⟨b',j',rfl⟩:=hbx p hp; rfl
   ·have:jG N4 (.c b j) d=jG N1 (.c b j) d:=Oo (N:=N1) (N':=N4) rfl (fun _ _ _=>rfl) fun p hp=>by obtain⟨b',j',rfl⟩:=hbx p hp; rfl
    rw[this]; exact b3
  ·rcases QQ e1 with⟨Wt,o1,u1⟩|⟨Wt,o1,u1⟩<;>rcases QQ e2 with⟨I1,o2,u2⟩|⟨I1,o2,u2⟩<;>rw[o1] at e1<;>rw[o2] at e2<;>rw[u1] at e3<;>rw[u2] at e4
   ·exact h3.A7.inj p q n e1 e2 e3 e4
   ·have a1:=PC n (own3 e1 e3);have a2:=RO I1 e2 e4;rw[a1] at a2; cases a2
   ·have a1:=PC n (own3 e2 e4);have a2:=RO Wt e1 e3;rw[a1] at a2; cases a2
   ·exact h.inj p q n e1 e2 e3 e4
  ·rcases QQ e2 with⟨I1,o2,u2⟩|⟨I1,o2,u2⟩<;>rw[o2] at e2<;>rw[u2] at e3
   ·exact h3.A7.bx b p e1 e2 e3
   ·have a1:=PC _ (box3 b e1);have a2:=RO I1 e2 e3;have a3:hid (N1.β b)=true:=a2;rw[a1] at a3; cases a3
 have hr0:=h3.A7.env 0;simp only[Am.get,if_true] at hr0;rw[A3 N1 0 iF] at hr0;have hok0:=h3.A7.IL 0;simp only[Am.get,if_true] at hok0;refine⟨φ4,eF.quiet hsim ⟨fun b jJ=>?_,Nat.le_trans hb.2 hle⟩ (IM (aJ _) r (fun p hp=>by rw[hbr] at hp; simp at hp) hok0) (oK iF) ?_,oN⟩
 ·show N1.β b=B b;rw[fg b (by have:=hb.2; omega)]; exact hb.1 b jJ
 ·rw[nF N4 iF];have:cU N4 r=cU N1 r:=Jg (N:=N1) (N':=N4) rfl fun p hp=>by rw[hbr] at hp; simp at hp
  rw[this];refine tr34 (QX (o:=aB ⟨[(0,r)],H'⟩) (nb:=H'.length) (fun b jJ=>box3 b (abX b jJ)) (fun p hp n hnu=>own3 hp hnu) r hok0) hr0
theorem adU (dy:fy P c) (eH:iG P c call):Nq P c call:=by
 intro X φ w B base s o a kd f args md q r H' hk h hg ha hf hm hp lN hbr iF PW hc;obtain⟨N,Ha,h,hb⟩:=h;obtain⟨vargs,pI,hA,BR⟩:=DE dy h hg hk ha hf
 have hent:ff X φ w N ⟨dP 0 (args.map fa),s.H⟩ Ha (fun i=>vargs.getD i undef):=by
  refine h.enter lN hp (fun i x hx=>?_) (fun i x v hx hv=>?_) (by simpa using hA.1)
  ·rw[cu] at hx;cases Mq:args[i]? with
   |none=>rw[Mq] at hx; cases hx
   |some y=>
     rw[Mq] at hx;simp at hx;subst hx;have hy:=gO.1 BR i y Mq;unfold fa;split
     ·trivial
     ·exact hy
  ·rw[cu] at hx;cases Mq:args[i]? with
   |none=>rw[Mq] at hx; cases hx
   |some y=>
     rw[Mq] at hx;simp at hx;subst hx;have r0:=hA.2 i y v Mq hv;have hpy:=zW hp i (fa y) (by rw[cu,Mq]; rfl);by_cases ho:∃k,y=.own k []
     ·obtain⟨k,rfl⟩:=ho;simp only[gU] at r0;cases r0;exact .lJ _ _
     ·have hn:fa y=y:=by
       unfold fa;split
       ·rename_i k; exact absurd ⟨k,rfl⟩ ho
       ·rfl
      rw[hn] at hpy ⊢;have hy:gU N y=cU N y:=by cases y<;>first|rfl|(simp[fW] at hpy; done)
      rw[hy] at r0;exact r0
 obtain⟨abX,_⟩:=FA lN;obtain⟨nN,H2,hn⟩:=hent.norm abX
 have h0:∀i,bY (get (dP 0 (args.map fa)) i)=false:=fun i=>by
  rw[tD];simp only[Nat.zero_le,if_true,Nat.sub_zero];cases e:(args.map fa)[i]? with
  |none=>rfl
  |some x=>exact Bb (zW hp i x e)
 have jW:=eH f md q hf (args.map fa) s.H r H' (.inl hm) hc (fun _=>PW) (fun g=>X g\/(bU φ g/\¬ bU nN g)) nN w N.β vargs (by simpa using hA.1) ⟨N,H2,hn.A7,fun _ _=>rfl,aJ _⟩ (fun g=>(hg g).mono (fun a u ⟨h1,h2,h3⟩=>⟨fun hx=>hx.elim h1 fun hh=>h2 hh.1,fun⟨m,sz,e⟩=>h2 ⟨m,sz,hn.sub m _ e⟩,h3⟩) (.refl _));intro K Q hK;unfold Oper.wp;rw[pI,Oper.upon_enter];refine jW.mono ?_;rintro e w1 ⟨v',l5,rfl,⟨N1,H1,gq,B9,hle⟩,ad⟩;obtain⟨φ',xy,ad'⟩:=shared h hb hn h0 gq ad B9 hle PW hbr iF;exact hK v' w1 φ' (by simpa using xy) ad'
end
end Go.Bm

/- The machine by value is sound. -/
namespace Go.Bm
open Go.Am
section
variable {P:Program} {c:eS}
theorem adQ (dy:fy P c) (qv:wO P c) (xz:xQ P c) (n:Nat):Wh P c n:=
 WS dy qv xz (fun call hc=>adU dy hc) (fun call hc=>amQ dy (akx dy qv hc (adU dy hc))) (fun n hs=>shOK dy xz hs) n
theorem ag6 (dy:fy P c) (qv:wO P c) (xz:xQ P c) (n:Nat):iG P c (mz c n):=Qt dy xz (adQ dy qv xz n) (shOK dy xz (adQ dy qv xz n))
theorem ag5 (dy:fy P c) (qv:wO P c) (xz:xQ P c) {n f:Nat} {md:Md} {q:fM} (hf:c.fn f=some (md,q)) (jI:md.sh=false) {args:List AV} (hz:dc args=true) {r:AV} {H':Heap} (h:mz c n f args []=some (r,H')) (hr:pl r=true) {w:World} {vargs:Array Value}
  (ha:rI (fun _=>False) [] w args vargs) (hg:Am.eI (iu c) (fun _=>False) [] w):Calls P f vargs w (fun e w'=>∃v,e=.returned v/\bR (Rd (fun _=>False) [] w') [] r v/\RowKit.Below w.heap.size w w'):=
 adx dy (ag6 dy qv xz n) hf jI hz h hr ha hg
theorem adw (dy:fy P c) (qv:wO P c) (xz:xQ P c) {n f:Nat} {md:Md} {q:fM} (hf:c.fn f=some (md,q)) (jI:md.sh=false) {args:List AV} (hz:dc args=true) {r:AV} {H':Heap} (h:mz c n f args []=some (r,H')) (hr:pl r=true) {w:World} {vargs:Array Value}
  (ha:rI (fun _=>False) [] w args vargs) (hg:Am.eI (iu c) (fun _=>False) [] w):Calls P f vargs w (fun e w'=>∃v,e=.returned v/\bR (Rd (fun _=>False) [] w') [] r v/\∃ q os,w'=Go.Sort.grow (w.drewN q) os):=
 YI dy (ag6 dy qv xz n) hf jI hz h hr ha hg
end
end Go.Bm

/- More fuel gives the same; runs without counting fuel. -/
namespace Go.Bm
open Go.Am
section
variable {c:eS}
abbrev pW:=Nat->List AV->Heap->Option (AV × Heap)
def LeC (f g:pW):Prop:=∀n a H r,f n a H=some r->g n a H=some r
theorem Yr {f g:pW} (h:LeC f g) {kd:Kd} {s:St} {x:AV × St × Fq} (e:eT c f kd s=some x):eT c g kd s=some x:=by
 unfold eT at e ⊢;split at e
 ·cases e
 rename_i n args ha
 try simp only[ha]
 split at e
 ·cases e
 rename_i md q hf
 try simp only[hf]
 split at e
 ·rename_i hm
  try rw[if_pos hm]
  split at e
  ·cases e
  rename_i vu hz
  try simp only[hz]
  split at e
  case h_2=>cases e
  rename_i r H' hc;rw[h _ _ _ _ hc];exact e
 ·rename_i hm
  try rw[if_neg hm]
  split at e
  ·cases e
  rename_i n1 rE N6
  try simp only[N6]
  split at e
  case isFalse=>cases e
  rename_i hff
  try rw[if_pos hff]
  split at e
  ·rename_i jI
   try rw[if_pos jI]
   split at e
   case isFalse=>cases e
   rename_i hp
   try rw[if_pos hp]
   split at e
   case h_2=>cases e
   rename_i r H' hc;rw[h _ _ _ _ hc];exact e
  ·rename_i jI
   try rw[if_neg jI]
   split at e
   case isFalse=>cases e
   rename_i hp
   try rw[if_pos hp]
   split at e
   case h_2=>cases e
   rename_i r H' hc;rw[h _ _ _ _ hc];exact e
theorem LV {f:pW} {s:St} {kd:Kd} (h:p7 c f s kd=none) (g:pW):p7 c g s kd=none:=by
 unfold p7 at h ⊢;split at h
 ·split at h
  ·cases h
  ·rename_i hl;exact if_neg hl
 ·rfl
theorem abB {f:pW} {s:St} {kd:Kd} {v:AV} {s1:St} {fl:Fq} (h:p7 c f s kd=some (some (v,s1,fl))):∃n args H r H',f n args H=some (r,H')/\∀ g:pW,g n args H=some (r,H')->p7 c g s kd=some (some (v,s1,fl)):=by
 obtain⟨n,x,es,b,md,q,cs,cs',rfl,h1,h2,h3,h4,h5,h6,h7,rfl,rfl⟩:=Ai h;refine⟨_,_,_,_,_,h6,fun g hg=>?_⟩;unfold p7;simp only;rw[if_pos h1];unfold locV;rw[h2];simp only[h3,h4];rw[if_pos h5,hg];simp only;rw[if_pos h7]
theorem aiH {f g:pW} (h:LeC f g) {kd:Kd} {s:St} {x:AV × St × Fq} (e:p7 c f s kd=some (some x)):p7 c g s kd=some (some x):=by
 obtain⟨v,s1,fl⟩:=x;obtain⟨n,args,H,r,H',h1,h2⟩:=abB e;exact h2 g (h _ _ _ _ h1)
theorem aiy {f:pW} {fn i:Nat} {s:St} {xs:List AV} {x:AV × St × Fq} (e:Uk c f fn i s xs=some x):∃n args H r H',f n args H=some (r,H')/\∀ g:pW,g n args H=some (r,H')->Uk c g fn i s xs=some x:=by
 unfold Uk at e ⊢;split at e
 case h_2=>cases e
 rename_i md q k p len hf ha;split at e
 case h_2=>cases e
 rename_i k' ys hp;split at e
 case isFalse=>cases e
 rename_i hc;split at e
 case h_2=>cases e
 rename_i k2 zs H' I0;refine⟨_,_,_,_,_,I0,fun g hg=>?_⟩;rw[if_pos hc,hg];exact e
theorem Px {f:pW} {kd:Kd} {s:St} {x:AV × St × Fq} (e:vE c f s kd=some (some x)):∃n args H r H',f n args H=some (r,H')/\∀ g:pW,g n args H=some (r,H')->vE c g s kd=some (some x):=by
 unfold vE at e;split at e
 case h_2=>cases e
 rename_i fn es;split at e
 case h_2=>cases e
 rename_i i hi;simp only[af] at e;obtain⟨n,args,H,r,H',h1,h2⟩:=aiy e;exact⟨n,args,H,r,H',h1,fun g hg=>by simp only[vE,hi,h2 g hg]⟩
theorem Di {f:pW} {kd:Kd} {s:St} (h:vE c f s kd=none) (g:pW):vE c g s kd=none:=by
 unfold vE at h ⊢;split at h
 ·split at h
  ·cases h
  ·rename_i hm;simp only[hm]
 ·rfl
theorem Ys {f g:pW} (h:LeC f g) {kd:Kd} {s:St} {x:AV × St × Fq} (e:gP c f kd s=some x):gP c g kd s=some x:=by
 unfold gP at e ⊢;cases hm:vE c f s kd with
 |none=>
   rw[hm] at e;rw[Di hm g];obtain⟨v,s1,fl⟩:=x;rcases jX e with e|e
   ·exact uA (Yr h e)
   ·obtain⟨n,args,H,r,H',h1,h2⟩:=Zc e;exact MG (h2 g (h _ _ _ _ h1))
 |some r=>
   rw[hm] at e;simp only at e;subst e;obtain⟨n,args,H,r,H',h1,h2⟩:=Px hm;rw[h2 g (h _ _ _ _ h1)]
theorem MH {f g:pW} (h:LeC f g) {kd:Kd} {s:St} {x:AV × St × Fq} (e:dN c f kd s=some x):dN c g kd s=some x:=by
 unfold dN at e ⊢;cases hi:sO c s kd with
 |some r=>rw[hi] at e; exact e
 |none=>
   rw[hi] at e;cases hl:p7 c f s kd with
   |none=>rw[hl] at e; rw[LV hl g]; exact Ys h e
   |some r=>
     rw[hl] at e;simp only at e;subst e;rw[aiH h hl]
theorem Lq {f g:pW} {s:St} {kd:Kd} (h:pG kd=false):fD c f s kd=fD c g s kd:=by
 cases kd<;>first|rfl|(simp[pG] at h)
theorem Re {f g:pW} (h:LeC f g) {kd:Kd} {s:St} {x:AV × St × Fq} (e:fD c f s kd=some x):fD c g s kd=some x:=by
 cases hk:pG kd with
 |false=>rw[<-Lq (f:=f) hk]; exact e
 |true=>
   cases kd<;>simp[pG] at hk
   ·simp only[fD] at e ⊢; exact MH h e
   ·simp only[fD] at e ⊢; exact MH h e
theorem Jj {f g:pW} (h:LeC f g) {s:St} {o:O} {x:St × Fq} (e:u4 c f s o=some x):u4 c g s o=some x:=by
 have op:∀{y:AV × St × Fq} {K:AV × St × Fq->Option (St × Fq)},fD c f s o.kd=some y->fD c g s o.kd=some y:=fun h'=>Re h h';rw[zp] at e ⊢;cases hv:Ig c f s o with
 |none=>rw[hv] at e; cases e
 |some y=>
   have:Ig c g s o=some y:=by
    unfold Ig at hv ⊢;split at hv
    ·exact Re h hv
    ·split at hv
     ·split at hv
      ·rename_i hb; simp only[hb,if_true]; exact Re h hv
      ·rename_i hb; simp only[hb,if_false]; exact hv
     ·exact hv
     ·cases hv
   rw[hv] at e;rw[this];exact e
theorem IK {f g:pW} (h:LeC f g):∀{os:List O} {s:St} {x:St × List Fq},pz c f os s=some x->pz c g os s=some x
 |[],s,x,e=>e
 |o::r,s,x,e=>by
   simp only[pz] at e ⊢;split at e
   case h_2=>cases e
   rename_i s1 fl h1;rw[Jj h h1];simp only;split at e
   case h_2=>cases e
   rename_i s2 sP h2;rw[IK h h2];exact e
def LeR (f g:Nat->C->St->Option (Ex × St)):Prop:=∀b cd s x,f b cd s=some x->g b cd s=some x
theorem MX {f g:Nat->C->St->Option (Ex × St)} (h:LeR f g):LeC (pR c f) (pR c g):=by
 intro n a H r e;unfold pR at e ⊢;split at e
 ·exact e
 split at e
 ·cases e
 split at e
 case isFalse=>cases e
 rename_i md fn hf hl;simp only[hl,if_true];split at e
 ·rename_i s' hs; rw[h _ _ _ _ hs]; exact e
 ·rename_i s' hs; rw[h _ _ _ _ hs]; exact e
 ·cases e
theorem MM:∀n,LeR (df c n) (df c (n+1))
 |0=>fun b cd s x e=>by simp[df] at e
 |n+1=>by
   have ih:=MM n;intro b cd s x e;unfold df at e ⊢;cases cd with
   |skip=>exact e
   |ret=>exact e
   |exit i=>exact e
   |qT os dr un keep=>
     simp only at e ⊢;split at e
     case h_2=>cases e
     rename_i s' sP hs;rw[IK (MX ih) hs];exact e
   |seq a b'=>
     simp only at e ⊢;cases h1:df c n b a s with
     |none=>rw[h1] at e; cases e
     |some y=>
       obtain⟨ex,s1⟩:=y;rw[h1] at e;rw[ih _ _ _ _ h1];cases ex with
       |normal=>exact ih _ _ _ _ e
       |exit i=>exact e
       |ret=>exact e
   |cond y a b'=>
     simp only at e ⊢;split at e
     ·rename_i t ht;split at e
      ·rename_i h1; simp only[h1,if_true]; exact ih _ _ _ _ e
      ·rename_i h1; simp only[h1,if_false,bH]; exact ih _ _ _ _ e
     ·cases e
   |aH i b'=>
     simp only at e ⊢;cases h1:df c n b b' s with
     |none=>rw[h1] at e; cases e
     |some y=>
       rw[h1] at e;rw[ih _ _ _ _ h1];exact e
   |loop b'=>
     simp only at e ⊢;cases h1:df c n b b' s with
     |none=>rw[h1] at e; cases e
     |some y=>
       obtain⟨ex,s1⟩:=y;rw[h1] at e;rw[ih _ _ _ _ h1];cases ex with
       |normal=>exact ih _ _ _ _ e
       |exit i=>exact e
       |ret=>exact e
theorem uC {n m:Nat} (h:n<=m):LeR (df c n) (df c m):=by
 induction h with
 |refl=>exact fun _ _ _ _ e=>e
 |step _ ih=>exact fun b cd s x e=>MM _ b cd s x (ih b cd s x e)
open Classical in
noncomputable def aW (c:eS) (b:Nat) (cd:C) (s:St):Option (Ex × St):=if h:∃n x,df c n b cd s=some x then some (DY (j5 h)) else none
theorem dt {b:Nat} {cd:C} {s:St} {x:Ex × St}:aW c b cd s=some x ↔ ∃n,df c n b cd s=some x:=by
 unfold aW;constructor
 ·intro e;split at e
  ·rename_i h;have:=j5 (j5 h);exact⟨_,bj e▸this⟩
  ·cases e
 ·rintro⟨n,e⟩;have h:∃n x,df c n b cd s=some x:=⟨n,x,e⟩;rw[dif_pos h];have:=j5 (j5 h);have h1:=uC (AQ n (DY h)) _ _ _ _ e;have h2:=uC (yN n (DY h)) _ _ _ _ this;rw[h1] at h2;cases h2;rfl
noncomputable def bJ (c:eS) (f:Nat) (args:List AV) (H:Heap):Option (AV × Heap):=pR c (aW c) f args H
theorem oM (n:Nat):LeR (df c n) (aW c):=fun b cd s x e=>dt.2 ⟨n,e⟩
theorem BE (n:Nat):LeC (mz c n) (bJ c):=MX (oM n)
theorem iv {f:Nat} {args:List AV} {H:Heap} {r:AV × Heap}:bJ c f args H=some r ↔ ∃n,mz c n f args H=some r:=by
 constructor
 ·intro e;unfold bJ pR at e;split at e
  case h_1=>
   rename_i g hg;exact⟨0,by unfold mz pR; rw[hg]; exact e⟩
  rename_i ho;split at e
  ·cases e
  rename_i md fn hf;split at e
  case isFalse=>cases e
  rename_i hl;split at e
  ·rename_i s' hs;obtain⟨n,hn⟩:=dt.1 hs;exact⟨n,by unfold mz pR; simp only[ho,hf,hl,if_true,hn]; exact e⟩
  ·rename_i s' hs;obtain⟨n,hn⟩:=dt.1 hs;exact⟨n,by unfold mz pR; simp only[ho,hf,hl,if_true,hn]; exact e⟩
  ·cases e
 ·rintro⟨n,e⟩;exact BE n _ _ _ _ e
theorem V4 {n m:Nat} (h:n<=m):LeC (mz c n) (mz c m):=MX (uC h)
theorem abe {s:St} {kd:Kd} {x:AV × St × Fq}:fD c (bJ c) s kd=some x ↔ ∃n,fD c (mz c n) s kd=some x:=by
 constructor
 ·intro e;cases hk:pG kd with
  |false=>exact⟨0,by rw[Lq (g:=bJ c) hk]; exact e⟩
  |true=>
    have key0:∀{kd:Kd},eT c (bJ c) kd s=some x->∃n,eT c (mz c n) kd s=some x:=by
     intro kd e;unfold eT at e;split at e
     ·cases e
     rename_i f args ha;split at e
     ·cases e
     rename_i md q hf;split at e
     ·rename_i hm;split at e
      ·cases e
      rename_i vu hz;split at e
      case h_2=>cases e
      rename_i r H' hc;obtain⟨n,hn⟩:=iv.1 hc;refine⟨n,?_⟩;unfold eT;simp only[ha,hf,hm,if_true,hz,hn];exact e
     ·rename_i hm;split at e
      ·cases e
      rename_i f1 rE N6;split at e
      case isFalse=>cases e
      rename_i hff;split at e
      ·rename_i jI;split at e
       case isFalse=>cases e
       rename_i hp;split at e
       case h_2=>cases e
       rename_i r H' hc;obtain⟨n,hn⟩:=iv.1 hc;refine⟨n,?_⟩;unfold eT;rw[ha];simp only[hf];rw[if_neg hm,N6];simp only;rw[if_pos hff,if_pos jI,if_pos hp,hn];exact e
      ·rename_i jI;split at e
       case isFalse=>cases e
       rename_i hp;split at e
       case h_2=>cases e
       rename_i r H' hc;obtain⟨n,hn⟩:=iv.1 hc;refine⟨n,?_⟩;unfold eT;rw[ha];simp only[hf];rw[if_neg hm,N6];simp only;rw[if_pos hff,if_neg jI,if_pos hp,hn];exact e
    have key1:∀{kd:Kd},gP c (bJ c) kd s=some x->∃n,gP c (mz c n) kd s=some x:=by
     intro kd e;unfold gP at e ⊢;cases hm:vE c (bJ c) s kd with
     |none=>
       rw[hm] at e;obtain⟨v,s1,fl⟩:=x;rcases jX e with e|e
       ·obtain⟨n,hn⟩:=key0 e;exact⟨n,by rw[Di hm]; exact uA hn⟩
       ·obtain⟨m,args,H,r,H',h1,h2⟩:=Zc e;obtain⟨n,hn⟩:=iv.1 h1;exact⟨n,by rw[Di hm]; exact MG (h2 _ hn)⟩
     |some r=>
       rw[hm] at e;simp only at e;subst e;obtain⟨m,args,H,r,H',h1,h2⟩:=Px hm;obtain⟨n,hn⟩:=iv.1 h1;exact⟨n,by rw[h2 _ hn]⟩
    have key:∀{kd:Kd},dN c (bJ c) kd s=some x->∃n,dN c (mz c n) kd s=some x:=by
     intro kd e;unfold dN at e ⊢;cases hi:sO c s kd with
     |some r=>rw[hi] at e; exact⟨0,e⟩
     |none=>
       rw[hi] at e;cases hl:p7 c (bJ c) s kd with
       |none=>
         rw[hl] at e;obtain⟨n,hn⟩:=key1 e;exact⟨n,by rw[LV hl]; exact hn⟩
       |some r=>
         rw[hl] at e;simp only at e;subst e;obtain⟨m,args,H,r,H',h1,h2⟩:=abB (v:=x.1) (s1:=x.2.1) (fl:=x.2.2) hl;obtain⟨n,hn⟩:=iv.1 h1;exact⟨n,by rw[h2 _ hn]⟩
    cases kd<;>simp[pG] at hk
    ·simp only[fD] at e ⊢; exact key e
    ·simp only[fD] at e ⊢; exact key e
 ·rintro⟨n,e⟩;exact Re (BE n) e
theorem acL {s:St} {o:O} {x:St × Fq}:u4 c (bJ c) s o=some x ↔ ∃n,u4 c (mz c n) s o=some x:=by
 constructor
 ·intro e;rw[zp] at e;cases hv:Ig c (bJ c) s o with
  |none=>rw[hv] at e; cases e
  |some y=>
    have:∃n,Ig c (mz c n) s o=some y:=by
     unfold Ig at hv ⊢;split at hv
     ·obtain⟨n,hn⟩:=abe.1 hv;exact⟨n,hn⟩
     ·split at hv
      ·split at hv
       ·rename_i hb;obtain⟨n,hn⟩:=abe.1 hv;exact⟨n,by simp only[hb,if_true]; exact hn⟩
       ·rename_i hb; exact⟨0,by simp only[hb,if_false]; exact hv⟩
      ·exact⟨0,hv⟩
      ·cases hv
    obtain⟨n,hn⟩:=this;refine⟨n,?_⟩;rw[hv] at e;rw[zp,hn];exact e
 ·rintro⟨n,e⟩;exact Jj (BE n) e
theorem Ln:∀{os:List O} {s:St} {x:St × List Fq},pz c (bJ c) os s=some x ↔ ∃n,pz c (mz c n) os s=some x
 |[],s,x=>⟨fun e=>⟨0,e⟩,fun⟨_,e⟩=>e⟩
 |o::r,s,x=>by
   constructor
   ·intro e;simp only[pz] at e;split at e
    case h_2=>cases e
    rename_i s1 fl h1;split at e
    case h_2=>cases e
    rename_i s2 sP h2;obtain⟨n,hn⟩:=acL.1 h1;obtain⟨m,hm⟩:=Ln.1 h2;refine⟨max n m,?_⟩;simp only[pz];rw[Jj (V4 (AQ n m)) hn];simp only;rw[IK (V4 (yN n m)) hm];exact e
   ·rintro⟨n,e⟩;exact IK (BE n) e
theorem EF {α:Type} {a b:Option α} (h:∀x,a=some x ↔ b=some x):a=b:=by
 cases a with
 |none=>cases b with
   |none=>rfl
   |some y=>exact ((h y).2 rfl)
 |some x=>exact ((h x).1 rfl).symm
variable {b:Nat} {s:St}
theorem ML:aW c b .skip s=some (.normal,s):=dt.2 ⟨1,rfl⟩
theorem Qk:aW c b .ret s=some (.ret,s):=dt.2 ⟨1,rfl⟩
theorem YA {i:Nat}:aW c b (.exit i) s=some (.exit i,s):=dt.2 ⟨1,rfl⟩
noncomputable def Ot (c:eS) (b:Nat) (y:C):Option (Ex × St)->Option (Ex × St)
 |some (.normal,s')=>aW c b y s'
 |r=>r
def regL (dr:Bool) (os:List O) (un:List (Nat × Nat)) (base:Nat) (keep:List Nat):Option (St × List Fq)->Option (Ex × St)
 |some (s',sP)=>if dr=false\/Qg os sP un=true then (match Yp base keep s' with
   |some s2=>some (.normal,s2)
   |none=>none) else none
 |none=>none
def blkL (i:Nat):Option (Ex × St)->Option (Ex × St)
 |some (.exit j,s')=>if j=i then some (.normal,s') else some (.exit j,s')
 |r=>r
theorem fF {x y:C}:aW c b (.seq x y) s=Ot c b y (aW c b x s):=by
 apply EF;intro z;constructor
 ·intro e;obtain⟨n,hn⟩:=dt.1 e;cases n with
  |zero=>simp[df] at hn
  |succ n=>
    simp only[df] at hn;cases h1:df c n b x s with
    |none=>rw[h1] at hn; cases hn
    |some w=>
      obtain⟨ex,s1⟩:=w;rw[h1] at hn;rw[oM n _ _ _ _ h1];cases ex with
      |normal=>exact oM n _ _ _ _ hn
      |exit i=>exact hn
      |ret=>exact hn
 ·intro e;cases h1:aW c b x s with
  |none=>rw[h1] at e; cases e
  |some w=>
    obtain⟨ex,s1⟩:=w;rw[h1] at e;obtain⟨n,hn⟩:=dt.1 h1;cases ex with
    |normal=>
      obtain⟨m,hm⟩:=dt.1 e;refine dt.2 ⟨max n m+1,?_⟩;simp only[df];rw[uC (AQ n m) _ _ _ _ hn];exact uC (yN n m) _ _ _ _ hm
    |exit i=>exact dt.2 ⟨n+1,by simp only[df]; rw[hn]; exact e⟩
    |ret=>exact dt.2 ⟨n+1,by simp only[df]; rw[hn]; exact e⟩
theorem uB {x:C}:aW c b (.loop x) s=Ot c b (.loop x) (aW c b x s):=by
 apply EF;intro z;constructor
 ·intro e;obtain⟨n,hn⟩:=dt.1 e;cases n with
  |zero=>simp[df] at hn
  |succ n=>
    simp only[df] at hn;cases h1:df c n b x s with
    |none=>rw[h1] at hn; cases hn
    |some w=>
      obtain⟨ex,s1⟩:=w;rw[h1] at hn;rw[oM n _ _ _ _ h1];cases ex with
      |normal=>exact oM n _ _ _ _ hn
      |exit i=>exact hn
      |ret=>exact hn
 ·intro e;cases h1:aW c b x s with
  |none=>rw[h1] at e; cases e
  |some w=>
    obtain⟨ex,s1⟩:=w;rw[h1] at e;obtain⟨n,hn⟩:=dt.1 h1;cases ex with
    |normal=>
      obtain⟨m,hm⟩:=dt.1 e;refine dt.2 ⟨max n m+1,?_⟩;simp only[df];rw[uC (AQ n m) _ _ _ _ hn];exact uC (yN n m) _ _ _ _ hm
    |exit i=>exact dt.2 ⟨n+1,by simp only[df]; rw[hn]; exact e⟩
    |ret=>exact dt.2 ⟨n+1,by simp only[df]; rw[hn]; exact e⟩
theorem Qn {i:Nat} {x:C}:aW c b (.aH i x) s=blkL i (aW c b x s):=by
 apply EF;intro z;constructor
 ·intro e;obtain⟨n,hn⟩:=dt.1 e;cases n with
  |zero=>simp[df] at hn
  |succ n=>
    simp only[df] at hn;cases h1:df c n b x s with
    |none=>rw[h1] at hn; cases hn
    |some w=>rw[h1] at hn; rw[oM n _ _ _ _ h1]; exact hn
 ·intro e;cases h1:aW c b x s with
  |none=>rw[h1] at e; cases e
  |some w=>
    obtain⟨n,hn⟩:=dt.1 h1;rw[h1] at e;exact dt.2 ⟨n+1,by simp only[df]; rw[hn]; exact e⟩
theorem YB {v:E} {t:Bool} {x y:C} (h:bq c s.env v=.bool t):aW c b (.cond v x y) s=if t then aW c b x s else aW c b y s:=by
 apply EF;intro z;constructor
 ·intro e;obtain⟨n,hn⟩:=dt.1 e;cases n with
  |zero=>simp[df] at hn
  |succ n=>
    simp only[df,h] at hn;cases t with
    |true=>exact oM n _ _ _ _ hn
    |false=>exact oM n _ _ _ _ hn
 ·intro e;cases t with
  |true=>obtain⟨n,hn⟩:=dt.1 e; exact dt.2 ⟨n+1,by simp only[df,h]; exact hn⟩
  |false=>obtain⟨n,hn⟩:=dt.1 e; exact dt.2 ⟨n+1,by simp only[df,h]; exact hn⟩
theorem Ql {os:List O} {dr:Bool} {un:List (Nat × Nat)} {keep:List Nat}:aW c b (.qT os dr un keep) s=regL dr os un b keep (pz c (bJ c) os s):=by
 apply EF;intro z;constructor
 ·intro e;obtain⟨n,hn⟩:=dt.1 e;cases n with
  |zero=>simp[df] at hn
  |succ n=>
    simp only[df] at hn;split at hn
    case h_2=>cases hn
    rename_i s' sP h1;rw[Ln.2 ⟨n,h1⟩];exact hn
 ·intro e;cases h1:pz c (bJ c) os s with
  |none=>rw[h1] at e; cases e
  |some w=>
    obtain⟨n,hn⟩:=Ln.1 h1;rw[h1] at e;refine dt.2 ⟨n+1,?_⟩;simp only[df];have SC:pz c (pR c (df c n)) os s=some w:=hn;rw[SC];exact e
theorem ag7 {f:Nat} {md:Md} {q:fM} {args:List AV} {H:Heap} (ho:c.orc f=none) (hf:c.fn f=some (md,q)) (hl:args.length<=q.n):bJ c f args H=(match aW c H.length q.body ⟨dP 0 args,H⟩ with
  |some (.ret,s)=>(match sU c s q.res with
    |some vs=>bC md H.length s (qQ vs)
    |none=>none)
  |some (.normal,s)=>(match sU c s q.res with
    |some vs=>bC md H.length s (qQ vs)
    |none=>none)
  |_=>none):=by
 unfold bJ pR;simp only[NO,ho,hf,hl,if_true];generalize aW c H.length q.body ⟨dP 0 args,H⟩=z;cases z with
 |none=>rfl
 |some w=>
   obtain⟨e,s⟩:=w;cases e<;>rfl
end
end Go.Bm

/- Arguments that came in, by value; answers that are bools. -/
namespace Go.Am
open Go.ChangeShapes Go.WideShapes
def QE (k:IntKind) (w:World) (a:Option Addr) (len cap:Nat) (zs:List Int):Prop:=
 (a=none/\len=0/\cap=0/\zs=[]) \/
 ∃ x,a=some x/\len<=cap/\cap<=maxLen/\zs.length=cap/\(∀i,i<zs.length->w.cell? (x.add i)=some (.int k (zs.getD i 0)))/\∀ n∈zs,(Lit.int k n).wf=true
theorem adZ {k:IntKind} {w:World} {a:Option Addr} {len cap:Nat} {zs:List Int} (h:QE k w a len cap zs):bR (Rd (fun _=>False) [] w) [] (.list 1 ((zs.take len).map (AV.int k))) (.slice a len cap):=by
 rcases h with⟨rfl,rfl,rfl,rfl⟩|⟨x,rfl,hl,hm,hz,ja,hwz⟩
 ·exact .lJ _ _
 ·refine .yG _ 1 _ x len cap (fun i _=>.int k (zs.getD i 0)) (by simp; omega) hl ?_ ?_ ?_
  ·intro y hy;obtain⟨n,_,rfl⟩:=List.mem_map.mp hy;rfl
  ·intro i j y c hy hc;have hi:i<((zs.take len).map (AV.int k)).length:=(List.getElem?_eq_some_iff.mp hy).1;simp at hi;rw[cu] at hy;cases NS:(zs.take len)[i]? with
   |none=>rw[NS] at hy; cases hy
   |some n=>
     rw[NS] at hy;cases hy;cases j with
     |succ j=>simp[AV.cells] at hc
     |zero=>exact⟨id,bU.nil _,by simpa using ja i (by omega)⟩
  ·intro i j y c hy hc;rw[cu] at hy;cases NS:(zs.take len)[i]? with
   |none=>rw[NS] at hy; cases hy
   |some n=>
     rw[NS] at hy;cases hy;cases j with
     |succ j=>simp[AV.cells] at hc
     |zero=>
       simp[AV.cells] at hc;subst hc
       have e:zs.getD i 0=n:=by
        rw[bT] at NS;split at NS
        ·simp[List.getD,NS]
        ·cases NS
       rw[e];exact .int _ _ _
theorem rI.nil {X:Nat->Prop} {φ:dx} {w:World}:rI X φ w [] #[]:=⟨rfl,fun i x v h=>by simp at h⟩
theorem rI.cons {X:Nat->Prop} {φ:dx} {w:World} {x:AV} {v:Value} {xs:List AV} {vs:List Value} (h:bR (Rd X φ w) φ x v) (r:rI X φ w xs vs.toArray):rI X φ w (x::xs) (v::vs).toArray:=by
 obtain⟨r1,r2⟩:=r;refine⟨by simpa using r1,fun i y u hy hu=>?_⟩;cases i with
 |zero=>
   simp at hy hu;subst hy hu;exact h
 |succ i=>
   refine r2 i y u (by simpa using hy) (by simpa using hu)
theorem Tg {R:Addr->Value->Prop} {φ:dx} {b:Bool} {v:Value} (h:bR R φ (.bool b) v):v=.bool b:=by cases h; rfl
end Go.Am
namespace Go.Bm
open Go.Am
theorem V3 {P:Program} {c:eS} (dy:fy P c) (qv:wO P c) (xz:xQ P c) {f:Nat} {md:Md} {q:fM} (hf:c.fn f=some (md,q)) (jI:md.sh=false) {args:List AV} {b:Bool} {H':Heap} (h:bJ c f args []=some (.bool b,H')) (hz:dc args=true) {w:World} {vargs:Array Value}
  (ha:rI (fun _=>False) [] w args vargs) (hg:Am.eI (iu c) (fun _=>False) [] w):Calls P f vargs w (fun e w'=>e=.returned (.bool b)/\RowKit.Below w.heap.size w w'):=by
 obtain⟨n,hn⟩:=iv.1 h;refine (ag5 dy qv xz hf jI hz hn rfl ha hg).mono ?_;rintro e w' ⟨v,rfl,hr,hb⟩;rw[Tg hr];exact⟨rfl,hb⟩
theorem agy {c:eS} {g0:Nat} {k:IntKind} {zs:List Int} (h:∀g,c.gl g=if g=g0 then zs.map (AV.int k) else[]) {w:World} (hc:∀i,(hi:i<zs.length)->w.cell? ⟨g0,i,none⟩=some (.int k zs[i])):Am.eI (iu c) (fun _=>False) [] w:=by
 intro g;show bR _ [] (.dG (c.gl g)) _;rw[h g];split
 ·rename_i e;subst e;refine .dG _ _ _ (fun j=>.int k (zs.getD j 0)) (fun j d hj=>?_) (fun j d hj=>?_)
  ·rw[cu] at hj;cases e:zs[j]? with
   |none=>rw[e] at hj; cases hj
   |some z=>
     have bE:=az e;refine⟨id,bU.nil _,?_⟩;rw[Addr.jB,Nat.zero_add,hc j bE,aG,e,<-aj bE |>.symm.trans e |> bj];rfl
  ·rw[cu] at hj;cases e:zs[j]? with
   |none=>rw[e] at hj; cases hj
   |some z=>
     rw[e] at hj;simp at hj;subst hj;rw[aG,e];exact .int _ _ _
 ·exact .dG _ _ _ (fun _=>undef) (fun j c hj=>by simp at hj) (fun j c hj=>by simp at hj)
theorem adi {c:eS} (h:∀g,c.gl g=[]) {w:World}:Am.eI (iu c) (fun _=>False) [] w:=by
 intro g;show bR _ [] (.dG (c.gl g)) _;rw[h g];exact .dG _ _ _ (fun _=>undef) (fun j c hj=>by simp at hj) (fun j c hj=>by simp at hj)
end Go.Bm

/- Calls that are known ahead: a table of runs, each proved by itself. -/
namespace Go.Bm
open Go.Am
structure Fact where
 f:Nat
 args:List AV
 H:Heap
 r:AV
 H':Heap
end Go.Bm
