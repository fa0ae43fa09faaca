/- What two ascending lists have in common, as triangles.shared finds it. -/
import Derived.Test.YtbnheahpdodmjabGreatDoorRwP
set_option linter.unusedSimpArgs false
set_option linter.unusedVariables false
set_option maxRecDepth 100000
set_option maxHeartbeats 4000000
open List renaming append_assoc → dS, foldl_cons → dV, getD_eq_getElem?_getD → aG, getElem?_eq_getElem → aj, getElem?_set_ne → cT, getElem?_set_self → Wn, length_cons → cH, map_cons → eQ, mem_append → aI, mem_map → jZ, nil_append → oV, replicate → bh, take_of_length_le → aT
open Option.some renaming inj → bj
namespace Go.BmP
open Go.Am Go.Bm
def shr:List Int->List Int->List Int
 |[],_=>[]
 |_::_,[]=>[]
 |x::r,y::s=>if x<y then shr r (y::s) else if y<x then shr (x::r) s else x::shr r s
termination_by a b=>a.length+b.length
/- Slices that own each other's cells: the rows of triangles.lists, one step of it. -/
theorem Sb {p:Rt} {f:Nat->Rt}:∀{C:List AV} {j:Nat},p∉dz C->Sc p f j C=none
 |[],_,_=>rfl
 |c::r,j,h=>by
   simp only[dz,aI,not_or] at h
   have hb:V6 p (f j) c=none:=by
    have:=h.1;cases c<;>simp only[V6]
    rename_i k' q o' l';simp only[aV,List.mem_singleton] at this;rw[if_neg fun e=>this e.symm]
   simp only[Sc,hb,Sb h.2]
/- What triangles.lists returns: the neighbours of each node, ascending. -/
def lsF (R:List (List Int)) (e:Ed):List (List Int):=(R.set e.1.toNat (R.getD e.1.toNat []++[e.2])).set e.2.toNat (R.getD e.2.toNat []++[e.1])
theorem LS (R:List (List Int)) (e:Ed):(lsF R e).length=R.length:=by simp[lsF]
def lstE (N:Nat) (Es:List Ed):List (List Int):=(Es.foldl lsF (bh N [])).map jz
theorem adk (Es:List Ed):∀R:List (List Int),(Es.foldl lsF R).length=R.length:=by
 induction Es with
 |nil=>intro R; rfl
 |cons e r ih=>intro R; rw[dV,ih,LS]
/- The neighbours that triangles.lists computes: plain law. -/
def nbF (u:Int) (e:Ed):Option Int:=if e.1=u then some e.2 else if e.2=u then some e.1 else none
theorem aiG {R:List (List Int)} {e:Ed} {u:Nat} (hu:u<R.length) (h0:0<=e.1) (h1:e.1<e.2):(lsF R e).getD u []=R.getD u []++(nbF u e).toList:=by
 unfold lsF nbF;simp only[aG];by_cases k1:e.1=(u:Int)
 ·have k2:¬e.2=(u:Int):=by omega
  rw[if_pos k1,cT (by omega),show e.1.toNat=u by omega,Wn hu];rfl
 ·rw[if_neg k1];by_cases k2:e.2=(u:Int)
  ·rw[if_pos k2,show e.2.toNat=u by omega,Wn (by simpa using hu)];rfl
  ·rw[if_neg k2,cT (by omega),cT (by omega)];simp
theorem Qb {N:Nat} {u:Nat} (hu:u<N):∀(Es:List Ed) (R:List (List Int)),R.length=N->(∀e∈Es,0<=e.1/\e.1<e.2)->(Es.foldl lsF R).getD u []=R.getD u []++Es.filterMap (nbF u)
 |[],R,_,_=>by simp
 |e::r,R,hR,h=>by
   have he:=h e (by simp);rw[dV,Qb hu r (lsF R e) (by rw[LS]; exact hR) (fun x hx=>h x (by simp[hx])),aiG (by omega) he.1 he.2,List.filterMap_cons,dS];congr 1;cases nbF u e<;>simp
def HU (N:Nat) (Es:List Ed) (u:Int):List Int:=(lstE N Es).getD u.toNat []
theorem afG {N:Nat} {Es:List Ed} {u:Nat} (hu:u<N) (h:∀e∈Es,0<=e.1/\e.1<e.2):HU N Es u=jz (Es.filterMap (nbF u)):=by
 have:=Qb hu Es (bh N []) (by simp) h;have e0:(bh N ([]:List Int)).getD u []=[]:=by rw[aG,List.getElem?_replicate,if_pos hu]; rfl
 rw[e0,oV] at this;unfold HU lstE;have hl:u<(Es.foldl lsF (bh N [])).length:=by rw[adk,List.length_replicate]; exact hu
 rw[show ((u:Int)).toNat=u by omega,aG,List.getElem?_map];rw[aG] at this;rw[aj hl] at this ⊢;simp at this ⊢;rw[this]
theorem Ae {u x:Int} {e:Ed}:nbF u e=some x ↔ (e.1=u/\e.2=x)\/(e.1≠u/\e.2=u/\e.1=x):=by
 unfold nbF;split
 ·rename_i h; simp[h]
 ·rename_i h;split
  ·rename_i h2; simp[h,h2]
  ·rename_i h2; simp[h,h2]
theorem IQ {N:Nat} {Es:List Ed} (hG:uQ (N:Int) Es) {u:Int} (h0:0<=u) (h1:u<N) (x:Int):x∈HU N Es u ↔ jn Es u x:=by
 obtain⟨w,rfl⟩:∃w:Nat,u=w:=⟨u.toNat,by omega⟩;rw[afG (by omega) fun e he=>⟨(hG.2.2 e he).1,(hG.2.2 e he).2.1⟩,(qu _).mem_iff,List.mem_filterMap];unfold jn;constructor
 ·rintro⟨e,he,h⟩;rcases Ae.1 h with⟨a,b⟩|⟨a,b,c⟩
  ·left; rw[<-a,<-b]; exact he
  ·right; rw[<-b,<-c]; exact he
 ·rintro (h|h)
  ·exact⟨_,h,Ae.2 (.inl ⟨rfl,rfl⟩)⟩
  ·have:=(hG.2.2 _ h).2.1;exact⟨_,h,Ae.2 (.inr ⟨by simp only at this ⊢; omega,rfl,rfl⟩)⟩
theorem Xv {N:Nat} {Es:List Ed} (hG:uQ (N:Int) Es) {u:Int} (h0:0<=u) (h1:u<N):Up (HU N Es u):=by
 obtain⟨w,rfl⟩:∃w:Nat,u=w:=⟨u.toNat,by omega⟩;rw[afG (by omega) fun e he=>⟨(hG.2.2 e he).1,(hG.2.2 e he).2.1⟩]
 have nd:(Es.filterMap (nbF w)).Nodup:=by
  have hp:Es.Pairwise (fun a b=>LR a b/\(a.1<a.2/\b.1<b.2)):=by
   refine List.Pairwise.imp_of_mem (fun{a b} ha hb h=>⟨h,(hG.2.2 a ha).2.1,(hG.2.2 b hb).2.1⟩) hG.2.1
  refine List.Pairwise.filterMap _ (fun a b h x hx y hy e=>?_) hp;subst e;obtain⟨h1,h2,h3⟩:=h
  have:a=b:=by
   rcases Ae.1 hx with⟨p,q⟩|⟨p,q,r⟩<;>rcases Ae.1 hy with⟨p',q'⟩|⟨p',q',r'⟩
   ·exact Prod.ext (by omega) (by omega)
   ·exfalso; omega
   ·exfalso; omega
   ·exact Prod.ext (by omega) (by omega)
  subst this;exact aiF h1
 have nd2:(jz (Es.filterMap (nbF w))).Nodup:=(qu _).nodup_iff.2 nd;refine List.Pairwise.imp₂ (fun{a b} h1 h2=>?_) (Bk _) nd2;omega
theorem XS {N:Nat} {Es:List Ed} (hG:uQ (N:Int) Es) {u x:Int} (h:jn Es u x):(0<=u/\u<N)/\(0<=x/\x<N)/\u≠x:=by
 rcases h with h|h<;>(have:=hG.2.2 _ h; simp only at this; omega)
theorem Y5 {N:Nat}:∀{l:List Int} {a:Nat},Up l->(∀x∈l,(a:Int)<=x/\x<N)->l.length<=N-a
 |[],a,_,_=>by simp
 |x::r,a,hu,h=>by
   obtain⟨h1,h2⟩:=List.pairwise_cons.1 hu;have hx:=h x (by simp);have ih:=Y5 (l:=r) (a:=a+1) h2 fun y hy=>⟨by have:=h1 y hy; omega,(h y (by simp[hy])).2⟩;simp only[cH];omega
theorem ait {N:Nat} {Es:List Ed} (hG:uQ (N:Int) Es) {u:Int} (h0:0<=u) (h1:u<N):(HU N Es u).length<=N:=by
 have:=Y5 (a:=0) (N:=N) (Xv hG h0 h1) fun x hx=>⟨by have:=(XS hG ((IQ hG h0 h1 x).1 hx)).2.1; omega,(XS hG ((IQ hG h0 h1 x).1 hx)).2.1.2⟩;omega
/- What graph.Neighbours returns (X01's head, beside RwP, K07, T04). -/
theorem acw {N:Nat} {Es:List Ed} (hG:uQ (N:Int) Es) {v:Nat} (hv:v<N):bZ ((eK N Es).getD v 0)=HU N Es v:=by
 have hN:=hG.1;obtain⟨_,_,h3⟩:=lV hG;refine tK (pS _) (Xv hG (by omega) (by omega)) fun x=>?_;rw[gk,IQ hG (by omega) (by omega)];constructor
 ·rintro⟨j,rfl,_,hj⟩;rw[h3] at hj;unfold jn;simpa using hj
 ·intro hj;have hb:=XS hG hj;obtain⟨j,rfl⟩:∃j:Nat,x=j:=⟨x.toNat,by omega⟩;refine⟨j,rfl,by omega,?_⟩;rw[h3];unfold jn at hj;simpa using hj
/- The neighbours and the degree of a node, by the reference. -/
def Sx (v:Int) (e:Ed):List Int:=(if e.1=v then[e.2] else[])++(if e.2=v then[e.1] else[])
def Xw (v:Int) (Es:List Ed) (o:List Int) (i:Nat) (J:Env):St:=⟨(1,.int .i64 v)::(5,.own 1 (ints o))::(12,.list 2 (fe Es))::(13,.int .i64 Es.length)::(14,.int .i64 i)::J,[]⟩
theorem afH (v:Int) (Es:List Ed) (hE:Es.length<1000000) (i:Nat) (hi:i<Es.length) (o:List Int) (ho:o.length<4294967290):aW aq 0 L8 (Xw v Es o i [])=some (.normal,Xw v Es (o++Sx v Es[i]) (i+1) []):=by
 have k1:(i:Int)<Es.length:=by omega
 have hw:=dA (i:=i) (by omega);have g3:(fe Es)[i]?=some (.agg [.int .i64 Es[i].1,.int .i64 Es[i].2]):=by rw[bI,aj hi]; simp[dY]
 have g4:∀h,(fe Es)[i]'h=.agg [.int .i64 Es[i].1,.int .i64 Es[i].2]:=fun h=>by
  have:=aj (l:=fe Es) h;rw[g3] at this;exact (bj this).symm
 have g5:=aN Es;have l1:o.length+1<=4294967296:=by omega
 have l2:(o++[Es[i].2]).length+1<=4294967296:=by simp; omega
 have l3:o.length+1+1<=4294967296:=by omega
 generalize Es[i]=e at *;obtain⟨a,b⟩:=e;unfold Xw L8 Sx;generalize fe Es=Y at *;have t2:List.take (o.length+1) (ints (o++[b]))=ints (o++[b]):=aT (by simp[ints]);have t3:List.take (o.length+2) (o++[v,v])=o++[v,v]:=aT (by simp);by_cases h1:a=v
 ·by_cases h2:b=v
  ·simp[zP,zO,zN,zM,zL,zK,zJ,zI,zH,zG,vc,u9,u7,k1,hi,hw,g3,g4,g5,l1,l2,l3,t2,t3,h1,h2,ks,idx,aH,ah,cZ,dh]
  ·simp[zP,zO,zN,zM,zL,zK,zJ,zI,zH,zG,vc,u9,u7,k1,hi,hw,g3,g4,g5,l1,l2,h1,h2,ks,idx,aH,ah,cZ,dh]
 ·by_cases h2:b=v
  ·simp[zP,zO,zN,zM,zL,zK,zJ,zI,zH,zG,vc,u9,u7,k1,hi,hw,g3,g4,g5,l1,l2,h1,h2,ks,idx,aH,ah,cZ,dh]
  ·simp[zP,zO,zN,zM,zL,zK,zJ,zI,zH,zG,vc,u9,u7,k1,hi,hw,g3,g4,g5,l1,l2,h1,h2,ks,idx,aH,ah,cZ,dh]
theorem abt (v:Int) (e:Ed):(Sx v e).length<=2:=by
 unfold Sx; split<;>split<;>simp
theorem abr (v:Int) (Es:List Ed) (hE:Es.length<1000000):∀(k i:Nat) (o:List Int),i+k=Es.length->o.length<=2*i->aW aq 0 (.loop L8) (Xw v Es o i [])=some (.exit 0,Xw v Es (o++((Es.drop i).map (Sx v)).flatten) Es.length [(15,.bool false)])
 |0,i,o,hi,ho=>by
   obtain rfl:i=Es.length:=by omega
   rw[List.drop_length,List.map_nil,List.flatten_nil,List.append_nil];refine bn ?_;unfold Xw L8;generalize fe Es=Y at *;simp[zP,zO,zN,zM,zL,zK,zJ,zI,zH,zG,vc,u9,u7]
 |k+1,i,o,hi,ho=>by
   have bE:i<Es.length:=by omega
   have:=abt v Es[i];have ih:=abr v Es hE k (i+1) (o++Sx v Es[i]) (by omega) (by simp; omega);rw[dS] at ih;rw[List.drop_eq_getElem_cons bE,eQ,List.flatten_cons];exact (aS (afH v Es hE i bE o (by omega))).trans ih
theorem aml {N:Nat} {Es:List Ed} (hG:uQ (N:Int) Es) {v:Int} (h0:0<=v) (h1:v<N):dE (Es.map (Sx v)).flatten=HU N Es v:=by
 refine tK (gR _).1 (Xv hG h0 h1) fun x=>?_;rw[(gR _).2,IQ hG h0 h1,List.mem_flatten];unfold jn;constructor
 ·rintro⟨l,hl,hx⟩;obtain⟨e,he,rfl⟩:=jZ.1 hl;unfold Sx at hx;rcases aI.1 hx with h|h
  ·split at h
   ·rename_i k; simp at h; subst h; left; rw[<-k]; exact he
   ·cases h
  ·split at h
   ·rename_i k; simp at h; subst h; right; rw[<-k]; exact he
   ·cases h
 ·rintro (h|h)
  ·exact⟨_,jZ.2 ⟨_,h,rfl⟩,by simp[Sx]⟩
  ·exact⟨_,jZ.2 ⟨_,h,rfl⟩,by simp[Sx]⟩
theorem Ad {N:Nat} {Es:List Ed} (hG:uQ (N:Int) Es) (hE:Es.length<1000000) {v:Int} (h0:0<=v) (h1:v<N):bJ aq Ub [.agg [.int .i64 N,.list 2 (fe Es)],.int .i64 v] []=some (.list 1 (ints (HU N Es v)),[]):=by
 have g:=zz N Es (by omega);rw[tE.2 hG] at g;have lp:=abr v Es hE Es.length 0 [] (by omega) (by simp);rw[List.drop_zero,oV] at lp
 have bl:(Es.map (Sx v)).flatten.length<=2*Es.length:=by
  have:∀l:List Ed,(l.map (Sx v)).flatten.length<=2*l.length:=by
   intro l
   induction l with
   |nil=>simp
   |cons e r ih=>
     have:=abt v e;simp only[eQ,List.flatten_cons,List.length_append,cH];omega
  exact this Es
 have of:=Ri (Es.map (Sx v)).flatten (by omega);rw[aml hG h0 h1] at of;have tk:List.take (Es.map (Sx v)).flatten.length (ints (Es.map (Sx v)).flatten)=ints (Es.map (Sx v)).flatten:=aT (by rw[ah]; omega);have g5:=aN Es;have g6:=ah (Es.map (Sx v)).flatten;unfold Xw at lp;rw[fH,dT] at lp;rw[dZ sQa3 (Nat.le_of_ble_eq_true rfl)];unfold qQa3 cQa3;generalize (Es.map (Sx v)).flatten=fl at *;cases fl with
 |nil=>
   rw[dT] at *;generalize fe Es=Y at *;generalize ints (HU N Es v)=nv at *;simp[zP,zO,zN,zM,zL,zK,zJ,zI,zH,zG,vc,u9,u7,g,lp,of,tk,g5,g6,aH,sQP,iQP,sQa4,iQa4,dc,pl,bL,bC]
 |cons x r=>
   rw[kc] at *;rw[cH] at *;generalize fe Es=Y at *;generalize ints (HU N Es v)=nv at *;generalize ints r=rr at *;simp[zP,zO,zN,zM,zL,zK,zJ,zI,zH,zG,vc,u9,u7,g,lp,of,tk,g5,g6,aH,sQP,iQP,sQa4,iQa4,dc,pl,bL,bC]
end Go.BmP
