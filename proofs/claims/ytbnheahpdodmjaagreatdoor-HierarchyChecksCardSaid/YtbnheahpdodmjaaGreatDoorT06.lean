/- What two ascending lists have in common, as triangles.shared finds it. -/
import Derived.Test.YtbnheahpdodmjaaGreatDoorRwP
set_option linter.unusedSimpArgs false
set_option linter.unusedVariables false
set_option maxRecDepth 100000
set_option maxHeartbeats 4000000
open List renaming append_assoc → dJ, foldl_cons → dM, getD_eq_getElem?_getD → au, getElem?_eq_getElem → ai, getElem?_set_ne → cQ, getElem?_set_self → UX, length_cons → cc, map_cons → dp, mem_append → aF, mem_map → jP, nil_append → sI, replicate → aW, take_of_length_le → aK
open Option.some renaming inj → bm
namespace Go.BmP
open Go.Am Go.Bm
def shr:List Int->List Int->List Int
 |[],_=>[]
 |_::_,[]=>[]
 |x::r,y::s=>if x<y then shr r (y::s) else if y<x then shr (x::r) s else x::shr r s
termination_by a b=>a.length+b.length
def sSt (a b o:List Int) (J:Env):St:=⟨(0,.list 1 (ints a))::(1,.list 1 (ints b))::(5,.own 1 (ints o))::J,[]⟩
/- Slices that own each other's cells: the rows of triangles.lists, one step of it. -/
def Cels (C:List AV):Prop:=∀c∈C,(∃xs,c=.own 1 xs)\/c=.any
theorem QG {p:Rt} {f:Nat->Rt}:∀{C:List AV} {j:Nat},p∉dn C->QH p f j C=none
 |[],_,_=>rfl
 |c::r,j,h=>by
   simp only[dn,aF,not_or] at h
   have hb:UF p (f j) c=none:=by
    have:=h.1;cases c<;>simp only[UF]
    rename_i k' q o' l';simp only[aS,List.mem_singleton] at this;rw[if_neg fun e=>this e.symm]
   simp only[QH,hb,QG h.2]
/- What triangles.lists returns: the neighbours of each node, ascending. -/
def llT (o:List (List Int)):List AV:=o.map fun S=>.list 1 (ints S)
def rws (R:List (List Int)):List AV:=R.map fun r=>.own 1 (ints r)
def lsF (R:List (List Int)) (e:Ed):List (List Int):=(R.set e.1.toNat (R.getD e.1.toNat []++[e.2])).set e.2.toNat (R.getD e.2.toNat []++[e.1])
theorem K0 (R:List (List Int)) (e:Ed):(lsF R e).length=R.length:=by simp[lsF]
def liSt (N:Nat) (Es:List Ed) (R:List (List Int)) (i:Nat) (J:Env):St:=⟨(3,.sl 1 1 0 N)::(12,.list 2 (dA Es))::(13,.int .i64 Es.length)::(14,.int .i64 i)::J,[some [.int .i64 N,.list 2 (dA Es)],some (rws R)]⟩
def lsSt (N:Nat) (Es:List Ed) (R:List (List Int)) (i:Nat) (J:Env):St:=⟨(3,.sl 1 1 0 N)::(45,.sl 1 1 0 N)::(46,.int .i64 N)::(47,.int .i64 i)::J,[some [.int .i64 N,.list 2 (dA Es)],some (rws R)]⟩
def lstE (N:Nat) (Es:List Ed):List (List Int):=(Es.foldl lsF (aW N [])).map js
theorem abW (Es:List Ed):∀R:List (List Int),(Es.foldl lsF R).length=R.length:=by
 induction Es with
 |nil=>intro R; rfl
 |cons e r ih=>intro R; rw[dM,ih,K0]
/- The neighbours that triangles.lists computes: plain law. -/
def nbF (u:Int) (e:Ed):Option Int:=if e.1=u then some e.2 else if e.2=u then some e.1 else none
theorem ag6 {R:List (List Int)} {e:Ed} {u:Nat} (hu:u<R.length) (h0:0<=e.1) (h1:e.1<e.2):(lsF R e).getD u []=R.getD u []++(nbF u e).toList:=by
 unfold lsF nbF;simp only[au];by_cases k1:e.1=(u:Int)
 ·have k2:¬e.2=(u:Int):=by omega
  rw[if_pos k1,cQ (by omega),show e.1.toNat=u by omega,UX hu];rfl
 ·rw[if_neg k1];by_cases k2:e.2=(u:Int)
  ·rw[if_pos k2,show e.2.toNat=u by omega,UX (by simpa using hu)];rfl
  ·rw[if_neg k2,cQ (by omega),cQ (by omega)];simp
theorem OO {N:Nat} {u:Nat} (hu:u<N):∀(Es:List Ed) (R:List (List Int)),R.length=N->(∀e∈Es,0<=e.1/\e.1<e.2)->(Es.foldl lsF R).getD u []=R.getD u []++Es.filterMap (nbF u)
 |[],R,_,_=>by simp
 |e::r,R,hR,h=>by
   have he:=h e (by simp);rw[dM,OO hu r (lsF R e) (by rw[K0]; exact hR) (fun x hx=>h x (by simp[hx])),ag6 (by omega) he.1 he.2,List.filterMap_cons,dJ];congr 1;cases nbF u e<;>simp
def HG (N:Nat) (Es:List Ed) (u:Int):List Int:=(lstE N Es).getD u.toNat []
theorem ad9 {N:Nat} {Es:List Ed} {u:Nat} (hu:u<N) (h:∀e∈Es,0<=e.1/\e.1<e.2):HG N Es u=js (Es.filterMap (nbF u)):=by
 have:=OO hu Es (aW N []) (by simp) h;have e0:(aW N ([]:List Int)).getD u []=[]:=by rw[au,List.getElem?_replicate,if_pos hu]; rfl
 rw[e0,sI] at this;unfold HG lstE;have hl:u<(Es.foldl lsF (aW N [])).length:=by rw[abW,List.length_replicate]; exact hu
 rw[show ((u:Int)).toNat=u by omega,au,List.getElem?_map];rw[au] at this;rw[ai hl] at this ⊢;simp at this ⊢;rw[this]
theorem zJ {u x:Int} {e:Ed}:nbF u e=some x ↔ (e.1=u/\e.2=x)\/(e.1≠u/\e.2=u/\e.1=x):=by
 unfold nbF;split
 ·rename_i h; simp[h]
 ·rename_i h;split
  ·rename_i h2; simp[h,h2]
  ·rename_i h2; simp[h,h2]
theorem ID {N:Nat} {Es:List Ed} (hG:tV (N:Int) Es) {u:Int} (h0:0<=u) (h1:u<N) (x:Int):x∈HG N Es u ↔ jn Es u x:=by
 obtain⟨w,rfl⟩:∃w:Nat,u=w:=⟨u.toNat,by omega⟩;rw[ad9 (by omega) fun e he=>⟨(hG.2.2 e he).1,(hG.2.2 e he).2.1⟩,(pT _).mem_iff,List.mem_filterMap];unfold jn;constructor
 ·rintro⟨e,he,h⟩;rcases zJ.1 h with⟨a,b⟩|⟨a,b,c⟩
  ·left; rw[<-a,<-b]; exact he
  ·right; rw[<-b,<-c]; exact he
 ·rintro (h|h)
  ·exact⟨_,h,zJ.2 (.inl ⟨rfl,rfl⟩)⟩
  ·have:=(hG.2.2 _ h).2.1;exact⟨_,h,zJ.2 (.inr ⟨by simp only at this ⊢; omega,rfl,rfl⟩)⟩
theorem Wc {N:Nat} {Es:List Ed} (hG:tV (N:Int) Es) {u:Int} (h0:0<=u) (h1:u<N):Up (HG N Es u):=by
 obtain⟨w,rfl⟩:∃w:Nat,u=w:=⟨u.toNat,by omega⟩;rw[ad9 (by omega) fun e he=>⟨(hG.2.2 e he).1,(hG.2.2 e he).2.1⟩]
 have nd:(Es.filterMap (nbF w)).Nodup:=by
  have hp:Es.Pairwise (fun a b=>KZ a b/\(a.1<a.2/\b.1<b.2)):=by
   refine List.Pairwise.imp_of_mem (fun{a b} ha hb h=>⟨h,(hG.2.2 a ha).2.1,(hG.2.2 b hb).2.1⟩) hG.2.1
  refine List.Pairwise.filterMap _ (fun a b h x hx y hy e=>?_) hp;subst e;obtain⟨h1,h2,h3⟩:=h
  have:a=b:=by
   rcases zJ.1 hx with⟨p,q⟩|⟨p,q,r⟩<;>rcases zJ.1 hy with⟨p',q'⟩|⟨p',q',r'⟩
   ·exact Prod.ext (by omega) (by omega)
   ·exfalso; omega
   ·exfalso; omega
   ·exact Prod.ext (by omega) (by omega)
  subst this;exact ag5 h1
 have nd2:(js (Es.filterMap (nbF w))).Nodup:=(pT _).nodup_iff.2 nd;refine List.Pairwise.imp₂ (fun{a b} h1 h2=>?_) (AY _) nd2;omega
theorem Wr {N:Nat} {Es:List Ed} (hG:tV (N:Int) Es) {u x:Int} (h:jn Es u x):(0<=u/\u<N)/\(0<=x/\x<N)/\u≠x:=by
 rcases h with h|h<;>(have:=hG.2.2 _ h; simp only at this; omega)
theorem XG {N:Nat}:∀{l:List Int} {a:Nat},Up l->(∀x∈l,(a:Int)<=x/\x<N)->l.length<=N-a
 |[],a,_,_=>by simp
 |x::r,a,hu,h=>by
   obtain⟨h1,h2⟩:=List.pairwise_cons.1 hu;have hx:=h x (by simp);have ih:=XG (l:=r) (a:=a+1) h2 fun y hy=>⟨by have:=h1 y hy; omega,(h y (by simp[hy])).2⟩;simp only[cc];omega
theorem agT {N:Nat} {Es:List Ed} (hG:tV (N:Int) Es) {u:Int} (h0:0<=u) (h1:u<N):(HG N Es u).length<=N:=by
 have:=XG (a:=0) (N:=N) (Wc hG h0 h1) fun x hx=>⟨by have:=(Wr hG ((ID hG h0 h1 x).1 hx)).2.1; omega,(Wr hG ((ID hG h0 h1 x).1 hx)).2.1.2⟩;omega
def com (N:Nat) (Es:List Ed) (e:Ed):List Int:=shr (HG N Es e.1) (HG N Es e.2)
def bump (n:List Int) (w:Int):List Int:=n.set w.toNat (n.getD w.toNat 0+1)
def triN (N:Nat) (Es:List Ed):List Int:=Es.foldl (fun n e=>(com N Es e).foldl bump n) (aW N 0)
def triS (N:Nat) (Es:List Ed):Nat:=(Es.map fun e=>(com N Es e).length).sum
/- What graph.Neighbours returns (X01's head, beside RwP, K07, T04). -/
theorem abb {N:Nat} {Es:List Ed} (hG:tV (N:Int) Es) {v:Nat} (hv:v<N):bW ((eB N Es).getD v 0)=HG N Es v:=by
 have hN:=hG.1;obtain⟨_,_,h3⟩:=lM hG;refine ta (nA _) (Wc hG (by omega) (by omega)) fun x=>?_;rw[fG,ID hG (by omega) (by omega)];constructor
 ·rintro⟨j,rfl,_,hj⟩;rw[h3] at hj;unfold jn;simpa using hj
 ·intro hj;have hb:=Wr hG hj;obtain⟨j,rfl⟩:∃j:Nat,x=j:=⟨x.toNat,by omega⟩;refine⟨j,rfl,by omega,?_⟩;rw[h3];unfold jn at hj;simpa using hj
/- The neighbours and the degree of a node, by the reference. -/
def QX (v:Int) (e:Ed):List Int:=(if e.1=v then[e.2] else[])++(if e.2=v then[e.1] else[])
def Wd (v:Int) (Es:List Ed) (o:List Int) (i:Nat) (J:Env):St:=⟨(1,.int .i64 v)::(5,.own 1 (ints o))::(12,.list 2 (dA Es))::(13,.int .i64 Es.length)::(14,.int .i64 i)::J,[]⟩
theorem aea (v:Int) (Es:List Ed) (hE:Es.length<1000000) (i:Nat) (hi:i<Es.length) (o:List Int) (ho:o.length<4294967290):aY an 0 Tv (Wd v Es o i [])=some (.normal,Wd v Es (o++QX v Es[i]) (i+1) []):=by
 have k1:(i:Int)<Es.length:=by omega
 have hw:=dO (i:=i) (by omega);have g3:(dA Es)[i]?=some (.agg [.int .i64 Es[i].1,.int .i64 Es[i].2]):=by rw[bz,ai hi]; simp[dG]
 have g4:∀h,(dA Es)[i]'h=.agg [.int .i64 Es[i].1,.int .i64 Es[i].2]:=fun h=>by
  have:=ai (l:=dA Es) h;rw[g3] at this;exact (bm this).symm
 have g5:=aL Es;have l1:o.length+1<=4294967296:=by omega
 have l2:(o++[Es[i].2]).length+1<=4294967296:=by simp; omega
 have l3:o.length+1+1<=4294967296:=by omega
 generalize Es[i]=e at *;obtain⟨a,b⟩:=e;unfold Wd Tv QX;generalize dA Es=Y at *;have t2:List.take (o.length+1) (ints (o++[b]))=ints (o++[b]):=aK (by simp[ints]);have t3:List.take (o.length+2) (o++[v,v])=o++[v,v]:=aK (by simp);by_cases h1:a=v
 ·by_cases h2:b=v
  ·simp[HB,HA,Hz,Hy,Hw,Hv,Hu,Hs,Hr,Hp,zw,zu,zt,k1,hi,hw,g3,g4,g5,l1,l2,l3,t2,t3,h1,h2,lU,idx,aJ,ah,dZ,cO]
  ·simp[HB,HA,Hz,Hy,Hw,Hv,Hu,Hs,Hr,Hp,zw,zu,zt,k1,hi,hw,g3,g4,g5,l1,l2,h1,h2,lU,idx,aJ,ah,dZ,cO]
 ·by_cases h2:b=v
  ·simp[HB,HA,Hz,Hy,Hw,Hv,Hu,Hs,Hr,Hp,zw,zu,zt,k1,hi,hw,g3,g4,g5,l1,l2,h1,h2,lU,idx,aJ,ah,dZ,cO]
  ·simp[HB,HA,Hz,Hy,Hw,Hv,Hu,Hs,Hr,Hp,zw,zu,zt,k1,hi,hw,g3,g4,g5,l1,l2,h1,h2,lU,idx,aJ,ah,dZ,cO]
theorem aaj (v:Int) (e:Ed):(QX v e).length<=2:=by
 unfold QX; split<;>split<;>simp
theorem aai (v:Int) (Es:List Ed) (hE:Es.length<1000000):∀(k i:Nat) (o:List Int),i+k=Es.length->o.length<=2*i->aY an 0 (.loop Tv) (Wd v Es o i [])=some (.exit 0,Wd v Es (o++((Es.drop i).map (QX v)).flatten) Es.length [(15,.bool false)])
 |0,i,o,hi,ho=>by
   obtain rfl:i=Es.length:=by omega
   rw[List.drop_length,List.map_nil,List.flatten_nil,List.append_nil];refine bt ?_;unfold Wd Tv;generalize dA Es=Y at *;simp[HB,HA,Hz,Hy,Hw,Hv,Hu,Hs,Hr,Hp,zw,zu,zt]
 |k+1,i,o,hi,ho=>by
   have bF:i<Es.length:=by omega
   have:=aaj v Es[i];have ih:=aai v Es hE k (i+1) (o++QX v Es[i]) (by omega) (by simp; omega);rw[dJ] at ih;rw[List.drop_eq_getElem_cons bF,dp,List.flatten_cons];exact (aV (aea v Es hE i bF o (by omega))).trans ih
theorem akJ {N:Nat} {Es:List Ed} (hG:tV (N:Int) Es) {v:Int} (h0:0<=v) (h1:v<N):dw (Es.map (QX v)).flatten=HG N Es v:=by
 refine ta (gI _).1 (Wc hG h0 h1) fun x=>?_;rw[(gI _).2,ID hG h0 h1,List.mem_flatten];unfold jn;constructor
 ·rintro⟨l,hl,hx⟩;obtain⟨e,he,rfl⟩:=jP.1 hl;unfold QX at hx;rcases aF.1 hx with h|h
  ·split at h
   ·rename_i k; simp at h; subst h; left; rw[<-k]; exact he
   ·cases h
  ·split at h
   ·rename_i k; simp at h; subst h; right; rw[<-k]; exact he
   ·cases h
 ·rintro (h|h)
  ·exact⟨_,jP.2 ⟨_,h,rfl⟩,by simp[QX]⟩
  ·exact⟨_,jP.2 ⟨_,h,rfl⟩,by simp[QX]⟩
theorem zI {N:Nat} {Es:List Ed} (hG:tV (N:Int) Es) (hE:Es.length<1000000) {v:Int} (h0:0<=v) (h1:v<N):bu an nQ8 [.agg [.int .i64 N,.list 2 (dA Es)],.int .i64 v] []=some (.list 1 (ints (HG N Es v)),[]):=by
 have g:=yY N Es (by omega);rw[s6.2 hG] at g;have lp:=aai v Es hE Es.length 0 [] (by omega) (by simp);rw[List.drop_zero,sI] at lp
 have bl:(Es.map (QX v)).flatten.length<=2*Es.length:=by
  have:∀l:List Ed,(l.map (QX v)).flatten.length<=2*l.length:=by
   intro l
   induction l with
   |nil=>simp
   |cons e r ih=>
     have:=aaj v e;simp only[dp,List.flatten_cons,List.length_append,cc];omega
  exact this Es
 have of:=PV (Es.map (QX v)).flatten (by omega);rw[akJ hG h0 h1] at of;have tk:List.take (Es.map (QX v)).flatten.length (ints (Es.map (QX v)).flatten)=ints (Es.map (QX v)).flatten:=aK (by rw[ah]; omega);have g5:=aL Es;have g6:=ah (Es.map (QX v)).flatten;unfold Wd at lp;rw[fU,dE] at lp;rw[eO sQ8 (Nat.le_of_ble_eq_true rfl)];unfold qQ8 cQ8;generalize (Es.map (QX v)).flatten=fl at *;cases fl with
 |nil=>
   rw[dE] at *;generalize dA Es=Y at *;generalize ints (HG N Es v)=nv at *;simp[HB,HA,Hz,Hy,Hw,Hv,Hu,Hs,Hr,Hp,zw,zu,zt,g,lp,of,tk,g5,g6,aJ,sQL,iQL,sQ9,iQ9,dq,pl,bM,bI]
 |cons x r=>
   rw[jV] at *;rw[cc] at *;generalize dA Es=Y at *;generalize ints (HG N Es v)=nv at *;generalize ints r=rr at *;simp[HB,HA,Hz,Hy,Hw,Hv,Hu,Hs,Hr,Hp,zw,zu,zt,g,lp,of,tk,g5,g6,aJ,sQL,iQL,sQ9,iQ9,dq,pl,bM,bI]
end Go.BmP
