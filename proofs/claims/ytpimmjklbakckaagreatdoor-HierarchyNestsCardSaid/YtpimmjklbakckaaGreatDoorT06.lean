/- What two ascending lists have in common, as triangles.shared finds it. -/
import Derived.Test.YtpimmjklbakckaaGreatDoorRwP
set_option linter.unusedSimpArgs false
set_option linter.unusedVariables false
set_option maxRecDepth 100000
set_option maxHeartbeats 4000000
open List renaming append_assoc → du, foldl_cons → pd, getD_eq_getElem?_getD → aH, getElem?_eq_getElem → aq, getElem?_set_ne → fX, getElem?_set_self → OZ, length_cons → cY, map_cons → eB, mem_append → aD, mem_map → iK, nil_append → Aq, replicate → aT, take_of_length_le → dt
open Option.some renaming inj → bK
namespace Go.BmP
open Go.Am Go.Bm
def shr:List Int->List Int->List Int
 |[],_=>[]
 |_::_,[]=>[]
 |x::r,y::s=>if x<y then shr r (y::s) else if y<x then shr (x::r) s else x::shr r s
termination_by a b=>a.length+b.length
def sSt (a b o:List Int) (J:Env):St:=⟨(0,.list 1 (ints a))::(1,.list 1 (ints b))::(5,.own 1 (ints o))::J,[]⟩
/- Slices that own each other's cells: the rows of triangles.lists, one step of it. -/
def Cels (C:List AV):Prop:=∀c∈C,(∃xs,c=.own 1 xs)\/c=.any
theorem Lc {p:Rt} {f:Nat->Rt}:∀{C:List AV} {j:Nat},p∉cW C->Ld p f j C=none
 |[],_,_=>rfl
 |c::r,j,h=>by
   simp only[cW,aD,not_or] at h
   have hb:OO p (f j) c=none:=by
    have:=h.1;cases c<;>simp only[OO]
    rename_i k' q o' l';simp only[aK,List.mem_singleton] at this;rw[if_neg fun e=>this e.symm]
   simp only[Ld,hb,Lc h.2]
/- What triangles.lists returns: the neighbours of each node, ascending. -/
def llT (o:List (List Int)):List AV:=o.map fun S=>.list 1 (ints S)
def rws (R:List (List Int)):List AV:=R.map fun r=>.own 1 (ints r)
def lsF (R:List (List Int)) (e:Ed):List (List Int):=(R.set e.1.toNat (R.getD e.1.toNat []++[e.2])).set e.2.toNat (R.getD e.2.toNat []++[e.1])
theorem Gk (R:List (List Int)) (e:Ed):(lsF R e).length=R.length:=by simp[lsF]
def liSt (N:Nat) (Es:List Ed) (R:List (List Int)) (i:Nat) (J:Env):St:=⟨(3,.sl 1 1 0 N)::(12,.list 2 (fi Es))::(13,.int .i64 Es.length)::(14,.int .i64 i)::J,[some [.int .i64 N,.list 2 (fi Es)],some (rws R)]⟩
def lsSt (N:Nat) (Es:List Ed) (R:List (List Int)) (i:Nat) (J:Env):St:=⟨(3,.sl 1 1 0 N)::(45,.sl 1 1 0 N)::(46,.int .i64 N)::(47,.int .i64 i)::J,[some [.int .i64 N,.list 2 (fi Es)],some (rws R)]⟩
def lstE (N:Nat) (Es:List Ed):List (List Int):=(Es.foldl lsF (aT N [])).map il
theorem Wx (Es:List Ed):∀R:List (List Int),(Es.foldl lsF R).length=R.length:=by
 induction Es with
 |nil=>intro R; rfl
 |cons e r ih=>intro R; rw[pd,ih,Gk]
/- The neighbours that triangles.lists computes: plain law. -/
def nbF (u:Int) (e:Ed):Option Int:=if e.1=u then some e.2 else if e.2=u then some e.1 else none
theorem abD {R:List (List Int)} {e:Ed} {u:Nat} (hu:u<R.length) (h0:0<=e.1) (h1:e.1<e.2):(lsF R e).getD u []=R.getD u []++(nbF u e).toList:=by
 unfold lsF nbF;simp only[aH];by_cases k1:e.1=(u:Int)
 ·have k2:¬e.2=(u:Int):=by omega
  rw[if_pos k1,fX (by omega),show e.1.toNat=u by omega,OZ hu];rfl
 ·rw[if_neg k1];by_cases k2:e.2=(u:Int)
  ·rw[if_pos k2,show e.2.toNat=u by omega,OZ (by simpa using hu)];rfl
  ·rw[if_neg k2,fX (by omega),fX (by omega)];simp
theorem Jz {N:Nat} {u:Nat} (hu:u<N):∀(Es:List Ed) (R:List (List Int)),R.length=N->(∀e∈Es,0<=e.1/\e.1<e.2)->(Es.foldl lsF R).getD u []=R.getD u []++Es.filterMap (nbF u)
 |[],R,_,_=>by simp
 |e::r,R,hR,h=>by
   have he:=h e (by simp);rw[pd,Jz hu r (lsF R e) (by rw[Gk]; exact hR) (fun x hx=>h x (by simp[hx])),abD (by omega) he.1 he.2,List.filterMap_cons,du];congr 1;cases nbF u e<;>simp
def yF (N:Nat) (Es:List Ed) (u:Int):List Int:=(lstE N Es).getD u.toNat []
theorem YO {N:Nat} {Es:List Ed} {u:Nat} (hu:u<N) (h:∀e∈Es,0<=e.1/\e.1<e.2):yF N Es u=il (Es.filterMap (nbF u)):=by
 have:=Jz hu Es (aT N []) (by simp) h;have e0:(aT N ([]:List Int)).getD u []=[]:=by rw[aH,List.getElem?_replicate,if_pos hu]; rfl
 rw[e0,Aq] at this;unfold yF lstE;have hl:u<(Es.foldl lsF (aT N [])).length:=by rw[Wx,List.length_replicate]; exact hu
 rw[show ((u:Int)).toNat=u by omega,aH,List.getElem?_map];rw[aH] at this;rw[aq hl] at this ⊢;simp at this ⊢;rw[this]
theorem wO {u x:Int} {e:Ed}:nbF u e=some x ↔ (e.1=u/\e.2=x)\/(e.1≠u/\e.2=u/\e.1=x):=by
 unfold nbF;split
 ·rename_i h; simp[h]
 ·rename_i h;split
  ·rename_i h2; simp[h,h2]
  ·rename_i h2; simp[h,h2]
theorem Ee {N:Nat} {Es:List Ed} (hG:vW (N:Int) Es) {u:Int} (h0:0<=u) (h1:u<N) (x:Int):x∈yF N Es u ↔ jn Es u x:=by
 obtain⟨w,rfl⟩:∃w:Nat,u=w:=⟨u.toNat,by omega⟩;rw[YO (by omega) fun e he=>⟨(hG.2.2 e he).1,(hG.2.2 e he).2.1⟩,(nE _).mem_iff,List.mem_filterMap];unfold jn;constructor
 ·rintro⟨e,he,h⟩;rcases wO.1 h with⟨a,b⟩|⟨a,b,c⟩
  ·left; rw[<-a,<-b]; exact he
  ·right; rw[<-b,<-c]; exact he
 ·rintro (h|h)
  ·exact⟨_,h,wO.2 (.inl ⟨rfl,rfl⟩)⟩
  ·have:=(hG.2.2 _ h).2.1;exact⟨_,h,wO.2 (.inr ⟨by simp only at this ⊢; omega,rfl,rfl⟩)⟩
theorem Qj {N:Nat} {Es:List Ed} (hG:vW (N:Int) Es) {u:Int} (h0:0<=u) (h1:u<N):Up (yF N Es u):=by
 obtain⟨w,rfl⟩:∃w:Nat,u=w:=⟨u.toNat,by omega⟩;rw[YO (by omega) fun e he=>⟨(hG.2.2 e he).1,(hG.2.2 e he).2.1⟩]
 have nd:(Es.filterMap (nbF w)).Nodup:=by
  have hp:Es.Pairwise (fun a b=>Gj a b/\(a.1<a.2/\b.1<b.2)):=by
   refine List.Pairwise.imp_of_mem (fun{a b} ha hb h=>⟨h,(hG.2.2 a ha).2.1,(hG.2.2 b hb).2.1⟩) hG.2.1
  refine List.Pairwise.filterMap _ (fun a b h x hx y hy e=>?_) hp;subst e;obtain⟨h1,h2,h3⟩:=h
  have:a=b:=by
   rcases wO.1 hx with⟨p,q⟩|⟨p,q,r⟩<;>rcases wO.1 hy with⟨p',q'⟩|⟨p',q',r'⟩
   ·exact Prod.ext (by omega) (by omega)
   ·exfalso; omega
   ·exfalso; omega
   ·exact Prod.ext (by omega) (by omega)
  subst this;exact abC h1
 have nd2:(il (Es.filterMap (nbF w))).Nodup:=(nE _).nodup_iff.2 nd;refine List.Pairwise.imp₂ (fun{a b} h1 h2=>?_) (xY _) nd2;omega
theorem Qs {N:Nat} {Es:List Ed} (hG:vW (N:Int) Es) {u x:Int} (h:jn Es u x):(0<=u/\u<N)/\(0<=x/\x<N)/\u≠x:=by
 rcases h with h|h<;>(have:=hG.2.2 _ h; simp only at this; omega)
theorem RC {N:Nat}:∀{l:List Int} {a:Nat},Up l->(∀x∈l,(a:Int)<=x/\x<N)->l.length<=N-a
 |[],a,_,_=>by simp
 |x::r,a,hu,h=>by
   obtain⟨h1,h2⟩:=List.pairwise_cons.1 hu;have hx:=h x (by simp);have ih:=RC (l:=r) (a:=a+1) h2 fun y hy=>⟨by have:=h1 y hy; omega,(h y (by simp[hy])).2⟩;simp only[cY];omega
theorem abq {N:Nat} {Es:List Ed} (hG:vW (N:Int) Es) {u:Int} (h0:0<=u) (h1:u<N):(yF N Es u).length<=N:=by
 have:=RC (a:=0) (N:=N) (Qj hG h0 h1) fun x hx=>⟨by have:=(Qs hG ((Ee hG h0 h1 x).1 hx)).2.1; omega,(Qs hG ((Ee hG h0 h1 x).1 hx)).2.1.2⟩;omega
def com (N:Nat) (Es:List Ed) (e:Ed):List Int:=shr (yF N Es e.1) (yF N Es e.2)
def bump (n:List Int) (w:Int):List Int:=n.set w.toNat (n.getD w.toNat 0+1)
def triN (N:Nat) (Es:List Ed):List Int:=Es.foldl (fun n e=>(com N Es e).foldl bump n) (aT N 0)
def triS (N:Nat) (Es:List Ed):Nat:=(Es.map fun e=>(com N Es e).length).sum
/- What graph.Neighbours returns (X01's head, beside RwP, K07, T04). -/
theorem UL {N:Nat} {Es:List Ed} (hG:vW (N:Int) Es) {v:Nat} (hv:v<N):cz ((ft N Es).getD v 0)=yF N Es v:=by
 have hN:=hG.1;obtain⟨_,_,h3⟩:=mK hG;refine tR (qS _) (Qj hG (by omega) (by omega)) fun x=>?_;rw[ff,Ee hG (by omega) (by omega)];constructor
 ·rintro⟨j,rfl,_,hj⟩;rw[h3] at hj;unfold jn;simpa using hj
 ·intro hj;have hb:=Qs hG hj;obtain⟨j,rfl⟩:∃j:Nat,x=j:=⟨x.toNat,by omega⟩;refine⟨j,rfl,by omega,?_⟩;rw[h3];unfold jn at hj;simpa using hj
/- The neighbours and the degree of a node, by the reference. -/
def Lv (v:Int) (e:Ed):List Int:=(if e.1=v then[e.2] else[])++(if e.2=v then[e.1] else[])
def Qk (v:Int) (Es:List Ed) (o:List Int) (i:Nat) (J:Env):St:=⟨(1,.int .i64 v)::(5,.own 1 (ints o))::(12,.list 2 (fi Es))::(13,.int .i64 Es.length)::(14,.int .i64 i)::J,[]⟩
theorem YP (v:Int) (Es:List Ed) (hE:Es.length<1000000) (i:Nat) (hi:i<Es.length) (o:List Int) (ho:o.length<4294967290):bg aC 0 Nt (Qk v Es o i [])=some (.normal,Qk v Es (o++Lv v Es[i]) (i+1) []):=by
 have k1:(i:Int)<Es.length:=by omega
 have hw:=eO (i:=i) (by omega);have g3:(fi Es)[i]?=some (.agg [.int .i64 Es[i].1,.int .i64 Es[i].2]):=by rw[bG,aq hi]; simp[dR]
 have g4:∀h,(fi Es)[i]'h=.agg [.int .i64 Es[i].1,.int .i64 Es[i].2]:=fun h=>by
  have:=aq (l:=fi Es) h;rw[g3] at this;exact (bK this).symm
 have g5:=aS Es;have l1:o.length+1<=4294967296:=by omega
 have l2:(o++[Es[i].2]).length+1<=4294967296:=by simp; omega
 have l3:o.length+1+1<=4294967296:=by omega
 generalize Es[i]=e at *;obtain⟨a,b⟩:=e;unfold Qk Nt Lv;generalize fi Es=Y at *;have t2:List.take (o.length+1) (ints (o++[b]))=ints (o++[b]):=dt (by simp[ints]);have t3:List.take (o.length+2) (o++[v,v])=o++[v,v]:=dt (by simp);by_cases h1:a=v
 ·by_cases h2:b=v
  ·simp[C8,C7,C6,C5,C4,C3,C2,C0,CZ,CY,wx,wv,wu,k1,hi,hw,g3,g4,g5,l1,l2,l3,t2,t3,h1,h2,mN,idx,aJ,ah,eG,cH]
  ·simp[C8,C7,C6,C5,C4,C3,C2,C0,CZ,CY,wx,wv,wu,k1,hi,hw,g3,g4,g5,l1,l2,h1,h2,mN,idx,aJ,ah,eG,cH]
 ·by_cases h2:b=v
  ·simp[C8,C7,C6,C5,C4,C3,C2,C0,CZ,CY,wx,wv,wu,k1,hi,hw,g3,g4,g5,l1,l2,h1,h2,mN,idx,aJ,ah,eG,cH]
  ·simp[C8,C7,C6,C5,C4,C3,C2,C0,CZ,CY,wx,wv,wu,k1,hi,hw,g3,g4,g5,l1,l2,h1,h2,mN,idx,aJ,ah,eG,cH]
theorem TP (v:Int) (e:Ed):(Lv v e).length<=2:=by
 unfold Lv; split<;>split<;>simp
theorem TO (v:Int) (Es:List Ed) (hE:Es.length<1000000):∀(k i:Nat) (o:List Int),i+k=Es.length->o.length<=2*i->bg aC 0 (.loop Nt) (Qk v Es o i [])=some (.exit 0,Qk v Es (o++((Es.drop i).map (Lv v)).flatten) Es.length [(15,.bool false)])
 |0,i,o,hi,ho=>by
   obtain rfl:i=Es.length:=by omega
   rw[List.drop_length,List.map_nil,List.flatten_nil,List.append_nil];refine bI ?_;unfold Qk Nt;generalize fi Es=Y at *;simp[C8,C7,C6,C5,C4,C3,C2,C0,CZ,CY,wx,wv,wu]
 |k+1,i,o,hi,ho=>by
   have bQ:i<Es.length:=by omega
   have:=TP v Es[i];have ih:=TO v Es hE k (i+1) (o++Lv v Es[i]) (by omega) (by simp; omega);rw[du] at ih;rw[List.drop_eq_getElem_cons bQ,eB,List.flatten_cons];exact (bk (YP v Es hE i bQ o (by omega))).trans ih
theorem afg {N:Nat} {Es:List Ed} (hG:vW (N:Int) Es) {v:Int} (h0:0<=v) (h1:v<N):dj (Es.map (Lv v)).flatten=yF N Es v:=by
 refine tR (gh _).1 (Qj hG h0 h1) fun x=>?_;rw[(gh _).2,Ee hG h0 h1,List.mem_flatten];unfold jn;constructor
 ·rintro⟨l,hl,hx⟩;obtain⟨e,he,rfl⟩:=iK.1 hl;unfold Lv at hx;rcases aD.1 hx with h|h
  ·split at h
   ·rename_i k; simp at h; subst h; left; rw[<-k]; exact he
   ·cases h
  ·split at h
   ·rename_i k; simp at h; subst h; right; rw[<-k]; exact he
   ·cases h
 ·rintro (h|h)
  ·exact⟨_,iK.2 ⟨_,h,rfl⟩,by simp[Lv]⟩
  ·exact⟨_,iK.2 ⟨_,h,rfl⟩,by simp[Lv]⟩
theorem wN {N:Nat} {Es:List Ed} (hG:vW (N:Int) Es) (hE:Es.length<1000000) {v:Int} (h0:0<=v) (h1:v<N):bU aC nQh [.agg [.int .i64 N,.list 2 (fi Es)],.int .i64 v] []=some (.list 1 (ints (yF N Es v)),[]):=by
 have g:=L9 N Es (by omega);rw[CC.2 hG] at g;have lp:=TO v Es hE Es.length 0 [] (by omega) (by simp);rw[List.drop_zero,Aq] at lp
 have bl:(Es.map (Lv v)).flatten.length<=2*Es.length:=by
  have:∀l:List Ed,(l.map (Lv v)).flatten.length<=2*l.length:=by
   intro l
   induction l with
   |nil=>simp
   |cons e r ih=>
     have:=TP v e;simp only[eB,List.flatten_cons,List.length_append,cY];omega
  exact this Es
 have of:=Qa (Es.map (Lv v)).flatten (by omega);rw[afg hG h0 h1] at of;have tk:List.take (Es.map (Lv v)).flatten.length (ints (Es.map (Lv v)).flatten)=ints (Es.map (Lv v)).flatten:=dt (by rw[ah]; omega);have g5:=aS Es;have g6:=ah (Es.map (Lv v)).flatten;unfold Qk at lp;rw[jJ,dw] at lp;rw[fK sQh (Nat.le_of_ble_eq_true rfl)];unfold qQh cQh;generalize (Es.map (Lv v)).flatten=fl at *;cases fl with
 |nil=>
   rw[dw] at *;generalize fi Es=Y at *;generalize ints (yF N Es v)=nv at *;simp[C8,C7,C6,C5,C4,C3,C2,C0,CZ,CY,wx,wv,wu,g,lp,of,tk,g5,g6,aJ,sQr,iQr,sQu,iQu,eE,pl,cc,bR]
 |cons x r=>
   rw[iU] at *;rw[cY] at *;generalize fi Es=Y at *;generalize ints (yF N Es v)=nv at *;generalize ints r=rr at *;simp[C8,C7,C6,C5,C4,C3,C2,C0,CZ,CY,wx,wv,wu,g,lp,of,tk,g5,g6,aJ,sQr,iQr,sQu,iQu,eE,pl,cc,bR]
end Go.BmP
