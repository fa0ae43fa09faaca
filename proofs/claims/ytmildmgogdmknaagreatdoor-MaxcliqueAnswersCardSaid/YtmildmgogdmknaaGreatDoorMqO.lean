/- The reference's order of peeling: the first of the least degrees, each time. Plain. -/
import Derived.Test.YtmildmgogdmknaaGreatDoorDegC
import Derived.Test.YtmildmgogdmknaaGreatDoorMxS
import Derived.Test.YtmildmgogdmknaaGreatDoorT06
import Derived.Test.YtmildmgogdmknaaGreatDoorCaA
set_option linter.unusedSimpArgs false
set_option linter.unusedVariables false
set_option linter.unusedSectionVars false
open Bool renaming and_eq_true → ae, eq_iff_iff → m8
open List renaming foldl_cons → fN, length_map → jQ, mem_append → aG, mem_cons → aK, mem_cons_of_mem → dh, mem_cons_self → cH, mem_map → gO, pairwise_append → bP, pairwise_cons → aX, take_of_length_le → aZ
open Nat renaming eq_of_testBit_eq → uQ, testBit_and → cm
namespace Go.BmP
open Go.Am Go.Bm
def Zz (nb:Nat->List Int) (l:List Int) (s:Int × Int) (v:Int):Int × Int:=if s.1<0\/((meet (nb v.toNat) l).length:Int)<s.2 then (v,((meet (nb v.toNat) l).length:Int)) else s
theorem QK (nb:Nat->List Int) (l:List Int):∀(W:List Int) (s:Int × Int),(∀v∈W,0<=v)->0<=s.1->0<=(W.foldl (Zz nb l) s).1/\(W.foldl (Zz nb l) s=s/\(∀v∈W,s.2<=((meet (nb v.toNat) l).length:Int))\/∃ P v Q,W=P++v::Q/\W.foldl (Zz nb l) s=(v,((meet (nb v.toNat) l).length:Int))/\((meet (nb v.toNat) l).length:Int)<s.2/\(∀u∈P,(meet (nb v.toNat) l).length<(meet (nb u.toNat) l).length)/\∀ u∈Q,(meet (nb v.toNat) l).length<=(meet (nb u.toNat) l).length)
 |[],s,_,h0=>⟨h0,.inl ⟨rfl,fun v hv=>by cases hv⟩⟩
 |w::W,s,hW,h0=>by
   have hw:=hW w cH;rw[fN];by_cases q:((meet (nb w.toNat) l).length:Int)<s.2
   ·have e:Zz nb l s w=(w,((meet (nb w.toNat) l).length:Int)):=by unfold Zz; rw[if_pos (.inr q)]
    rw[e];obtain⟨a,b⟩:=QK nb l W (w,((meet (nb w.toNat) l).length:Int)) (fun v hv=>hW v (dh _ hv)) hw;refine⟨a,.inr ?_⟩;rcases b with⟨b1,b2⟩|⟨P,v,Q,b1,b2,b3,b4,b5⟩
    ·exact⟨[],w,W,rfl,b1,q,fun u hu=>(by cases hu),fun u hu=>(by have:=b2 u hu; simp only at this; omega)⟩
    ·refine⟨w::P,v,Q,by rw[b1]; rfl,b2,by simp only at b3; omega,fun u hu=>?_,b5⟩;rcases aK.1 hu with rfl|hu
     ·simp only at b3; omega
     ·exact b4 u hu
   ·have e:Zz nb l s w=s:=by unfold Zz; rw[if_neg (by omega)]
    rw[e];obtain⟨a,b⟩:=QK nb l W s (fun v hv=>hW v (dh _ hv)) h0;refine⟨a,?_⟩;rcases b with⟨b1,b2⟩|⟨P,v,Q,b1,b2,b3,b4,b5⟩
    ·exact .inl ⟨b1,fun u hu=>by
      rcases aK.1 hu with rfl|hu
      ·omega
      ·exact b2 u hu⟩
    ·refine .inr ⟨w::P,v,Q,by rw[b1]; rfl,b2,b3,fun u hu=>?_,b5⟩;rcases aK.1 hu with rfl|hu
     ·omega
     ·exact b4 u hu
section
variable {A:List Nat} {nb:Nat->List Int} {N:Nat} (hN:N<=64) (IM:∀v,v<N->nb v=fG (A.getD v 0))
include hN IM
theorem aeF {l:List Int} (hu:Up l) (hb:∀x∈l,0<=x/\x<(N:Int)) {v:Nat} (hv:v<N):(meet (nb v) l).length=Xw A (KP l) v:=by
 obtain⟨u,m⟩:=A3 (nb v) l
 have e:meet (nb v) l=fG (KP l &&& A.getD v 0):=sI u (mT _) fun x=>by
  rw[m,IM v hv,gb,gb];constructor
  ·rintro⟨⟨j,rfl,j1,j2⟩,hx⟩;refine⟨j,rfl,j1,?_⟩;rw[cm,j2,mR fun v hv=>(hb v hv).1,decide_eq_true hx]; rfl
  ·rintro⟨j,rfl,j1,j2⟩;rw[cm,mR fun v hv=>(hb v hv).1] at j2;simp only[ae,decide_eq_true_eq] at j2;exact⟨⟨j,rfl,j1,j2.2⟩,j2.1⟩
 rw[e,Fu]; rfl
theorem abG {l:List Int} (hu:Up l) (hb:∀x∈l,0<=x/\x<(N:Int)) (kj:l≠[]):∃v d:Nat,l.foldl (Zz nb l) (-1,0)=((v:Int),(d:Int))/\(v:Int)∈l/\v<N/\XN A (KP l) v d:=by
 cases l with
 |nil=>exact absurd rfl kj
 |cons w W=>
   have hw:=hb w cH;have e:Zz nb (w::W) (-1,0) w=(w,((meet (nb w.toNat) (w::W)).length:Int)):=by unfold Zz; rw[if_pos (.inl (by decide))]
   rw[fN,e];obtain⟨_,b⟩:=QK nb (w::W) W (w,((meet (nb w.toNat) (w::W)).length:Int)) (fun v hv=>(hb v (dh _ hv)).1) hw.1;have mb:∀j:Nat,(KP (w::W)).testBit j=decide ((j:Int)∈w::W):=fun j=>mR fun v hv=>(hb v hv).1;have ln:∀x∈w::W,(meet (nb x.toNat) (w::W)).length=Xw A (KP (w::W)) x.toNat:=fun x hx=>aeF hN IM hu hb (by have:=hb x hx; omega)
   have main:∀x∈w::W,(∀y∈w::W,(meet (nb x.toNat) (w::W)).length<(meet (nb y.toNat) (w::W)).length\/(meet (nb x.toNat) (w::W)).length=(meet (nb y.toNat) (w::W)).length/\x<=y)->XN A (KP (w::W)) x.toNat (meet (nb x.toNat) (w::W)).length:=fun x hx h=>by
    have bx:=hb x hx;refine⟨by omega,by rw[mb]; exact decide_eq_true (by rwa [show ((x.toNat:Nat):Int)=x by omega]),(ln x hx).symm,fun j hj=>?_⟩;rw[mb] at hj;have hj:=of_decide_eq_true hj;have:=h j hj;rw[ln j hj,show ((j:Nat):Int).toNat=j by omega] at this;omega
   rcases b with⟨b1,b2⟩|⟨P,v,Q,b1,b2,b3,b4,b5⟩
   ·rw[b1];refine⟨w.toNat,(meet (nb w.toNat) (w::W)).length,by rw[show ((w.toNat:Nat):Int)=w by omega],by rw[show ((w.toNat:Nat):Int)=w by omega]; exact cH,by omega,main w cH fun y hy=>?_⟩;rcases aK.1 hy with rfl|DT
    ·right; omega
    ·have:=b2 y DT;have:=(aX.1 hu).1 y DT;simp only at *;omega
   ·rw[b2];have hv:v∈W:=by rw[b1]; simp
    have bv:=hb v (dh _ hv);refine⟨v.toNat,(meet (nb v.toNat) (w::W)).length,by rw[show ((v.toNat:Nat):Int)=v by omega],by rw[show ((v.toNat:Nat):Int)=v by omega]; exact dh _ hv,by omega,main v (dh _ hv) fun y hy=>?_⟩;rcases aK.1 hy with rfl|DT
    ·simp only at b3; omega
    ·rw[b1] at DT;rcases aG.1 DT with k|k
     ·left; exact b4 y k
     ·rcases aK.1 k with rfl|k
      ·right; omega
      ·have h5:=b5 y k;have hu2:=(aX.1 hu).2;rw[b1] at hu2;have:=(aX.1 (bP.1 hu2).2.1).1 y k;omega
theorem ag8 {l:List Int} (hb:∀x∈l,0<=x/\x<(N:Int)) {v:Nat} (hv:v<N):wo (KP l) v=KP (minus l [(v:Int)]):=by
 obtain⟨u,m⟩:=oS l [(v:Int)];refine uQ fun j=>?_;rw[fW (alh fun x hx=>by have:=hb x hx; omega) (by omega),mR fun x hx=>(hb x hx).1,mR fun x hx=>(hb x ((m x).1 hx).1).1];rw[m8,ae,decide_eq_true_eq,decide_eq_true_eq,decide_eq_true_eq,m];constructor
 ·rintro⟨a,b⟩;refine⟨a,fun q=>b ?_⟩;have q:(j:Int)=v:=by simpa using q
  omega
 ·rintro⟨a,b⟩;refine⟨a,fun q=>b ?_⟩;rw[q];exact cH
end
/- The reference's Colour and Best. Plain. -/
def usd (C W:List Int):List Int:=W.map fun w=>C.getD w.toNat (-1)
theorem X2 {C W:List Int} {c:Nat}:(c:Int)∈usd C W ↔ (c:Int)∈zU C W:=by
 rw[Q0];unfold usd;rw[gO];constructor
 ·rintro⟨w,hw,e⟩; exact⟨w,hw,e,by omega⟩
 ·rintro⟨w,hw,e,_⟩; exact⟨w,hw,e⟩
theorem afZ {C W:List Int} (h:(zU C W).length<65) {c:Nat} (hc:c<OQ (zU C W)):(c:Int)∈usd C W:=X2.2 (Q6 _ hc (by have:=KT _ h; omega))
theorem afY {C W:List Int} (h:(zU C W).length<65):(OQ (zU C W):Int)∉usd C W:=fun q=>Q5 _ h (X2.1 q)
def VM (o X:List Int):List Int:=if o.length<X.length then X else o
theorem Rc:∀(l:List (List Int)) (o:List Int),(l.foldl VM o=o/\∀ X∈l,X.length<=o.length)\/∃ P X Q,l=P++X::Q/\l.foldl VM o=X/\o.length<X.length/\(∀Y∈P,Y.length<X.length)/\∀ Y∈Q,Y.length<=X.length
 |[],o=>.inl ⟨rfl,fun X hX=>by cases hX⟩
 |Z::l,o=>by
   rw[fN];by_cases q:o.length<Z.length
   ·have e:VM o Z=Z:=by unfold VM; rw[if_pos q]
    rw[e];rcases Rc l Z with⟨b1,b2⟩|⟨P,X,Q,b1,b2,b3,b4,b5⟩
    ·exact .inr ⟨[],Z,l,rfl,b1,q,fun Y hY=>(by cases hY),b2⟩
    ·refine .inr ⟨Z::P,X,Q,by rw[b1]; rfl,b2,by omega,fun Y hY=>?_,b5⟩;rcases aK.1 hY with rfl|hY
     ·exact b3
     ·exact b4 Y hY
   ·have e:VM o Z=o:=by unfold VM; rw[if_neg q]
    rw[e];rcases Rc l o with⟨b1,b2⟩|⟨P,X,Q,b1,b2,b3,b4,b5⟩
    ·exact .inl ⟨b1,fun Y hY=>by
      rcases aK.1 hY with rfl|hY
      ·omega
      ·exact b2 Y hY⟩
    ·refine .inr ⟨Z::P,X,Q,by rw[b1]; rfl,b2,b3,fun Y hY=>?_,b5⟩;rcases aK.1 hY with rfl|hY
     ·omega
     ·exact b4 Y hY
theorem aeD {N:Nat} {E:List Ed} {O:List Nat} (hF:Fst N E O) (hL:Lgst N E O) {l:List (List Int)} (hl:∀X∈l,ue N E X) (hs:l.Pairwise fun a b=>ka b a=1) (hO:O≠[]->nz O∈l) (h0:O=[]->l=[]):l.foldl VM []=nz O:=by
 by_cases hz:O=[]
 ·rw[h0 hz,hz]; rfl
 have hm:=hO hz
 have hlen:∀X∈l,X.length<=O.length:=fun X hX=>by
  have:=hL.2 _ (Lk (hl X hX).1).1
  rwa [jQ] at this
 have pos:0<O.length:=List.length_pos_iff.2 hz;rcases Rc l [] with⟨b1,b2⟩|⟨P,X,Q,b1,b2,b3,b4,b5⟩
 ·have:=b2 _ hm;rw[k7] at this;simp at this;exact absurd this hz
 ·rw[b2];have hX:X∈l:=by rw[b1]; simp
  have lX:=hlen X hX;have hm2:=hm;rw[b1] at hm2;rcases aG.1 hm2 with k|k
  ·have:=b4 _ k;rw[k7] at this;omega
  ·rcases aK.1 k with k|k
   ·exact k.symm
   ·have h5:=b5 _ k;rw[k7] at h5;rw[b1] at hs;have c:=(aX.1 (bP.1 hs).2.1).1 _ k;have n:=ahn hF (hl X hX).1 (by omega);rw[Bh] at c;omega
/- ref10.Order. -/
set_option maxRecDepth 100000
set_option maxHeartbeats 8000000
def roS (N:Nat) (Es:List Ed) (l O:List Int) (s:Int × Int) (W:List Int) (i:Int) (J:Env):St:=⟨(1,.ptr 0 0)::(5,.list 1 (ints l))::(6,.own 1 (ints O))::(7,.int .i64 s.1)::(8,.int .i64 s.2)::(23,.list 1 (ints W))::(24,.int .i64 W.length)::(25,.int .i64 i)::J,jv N Es⟩
theorem aip {N:Nat} {Es:List Ed} (hG:jh (N:Int) Es) (hE:Es.length<1000000) (O l:List Int) (hll:l.length<=64) (W:List Int) (hl:W.length<=64) (hW:∀v∈W,0<=v/\v<(N:Int)):∀(m i:Nat) (s:Int × Int),i+m=W.length->aW aq 0 (.loop aar) (roS N Es l O s W i [])=some (.exit 2,roS N Es l O ((W.drop i).foldl (Zz (dj N Es) l) s) W W.length [(26,.bool false)])
 |0,i,s,hi=>by
   obtain rfl:i=W.length:=by omega
   rw[List.drop_length,List.foldl_nil];refine bq ?_;unfold roS jv aar;generalize ints W=W1 at *;generalize ints l=L1 at *;generalize ints O=O1 at *;generalize bU Es=Y at *;simp[Hf,zN,zM,zL,zK,zJ]
 |m+1,i,s,hi=>by
   have hN:N<=64:=by have:=hG.1.2; omega
   have bD:i<W.length:=by omega
   have hv:=hW W[i] (List.getElem_mem bD);rw[List.drop_eq_getElem_cons bD,fN];have ih:=aip hG hE O l hll W hl hW m (i+1) (Zz (dj N Es) l s W[i]) (by omega);refine (aS ?_).trans ih;clear ih;have k1:(i:Int)<W.length:=by omega
   have hw:=dM (i:=i) (by omega);have hx:=gC (k:=.i64) (i:=(i:Int)) (n:=W.length) (by omega) k1;have g4:∀h,(ints W)[i]'h=.int .i64 W[i]:=fun h=>aM _ _ _
   have lw:=af W;have nr:=ta hG hE hv.1 hv.2;have nl:=Q4 hG hv.1 hv.2;have mr:=T3 (B9 N Es W[i]) l (by omega) (by omega);have ml:=af (meet (B9 N Es W[i]) l);have en:dj N Es W[i].toNat=B9 N Es W[i]:=by unfold dj; rw[show ((W[i].toNat:Nat):Int)=W[i] by omega]
   obtain⟨b,d⟩:=s;unfold Zz;rw[en];unfold roS jv aar;generalize ints (meet (B9 N Es W[i]) l)=Z1 at *;generalize ints (B9 N Es W[i])=B1 at *;generalize (meet (B9 N Es W[i]) l).length=z at *;clear en hW;generalize W[i]=v at *;generalize ints W=W1 at *;generalize ints l=L1 at *;generalize ints O=O1 at *;generalize bU Es=Y at *;by_cases q1:b<0
   ·simp[Hf,zN,zM,zL,zK,zJ,k1,hw,bD,g4,lw,nr,mr,ml,q1,idx,aO,dP,pl,sQR,iQR,sQa5,iQa5]
   ·by_cases q2:(z:Int)<d<;>simp[Hf,zN,zM,zL,zK,zJ,k1,hw,bD,g4,lw,nr,mr,ml,q1,q2,idx,aO,dP,pl,sQR,iQR,sQa5,iQa5]
def ruS (N:Nat) (Es:List Ed) (l O:List Int) (J:Env):St:=⟨(1,.ptr 0 0)::(5,.list 1 (ints l))::(6,.own 1 (ints O))::J,jv N Es⟩
theorem agf {N:Nat} {Es:List Ed} (hG:jh (N:Int) Es) (hE:Es.length<1000000) (l O:List Int) (hll:l.length<=64) (hO:O.length<=64) (hl:0<l.length) (hW:∀v∈l,0<=v/\v<(N:Int)) (v d:Int) (hp:l.foldl (Zz (dj N Es) l) (-1,0)=(v,d)):aW aq 0 Uw (ruS N Es l O [])=some (.normal,ruS N Es (minus l [v]) (O++[v]) []):=by
 have lp:=aip hG hE O l hll l hll hW l.length 0 (-1,0) (by omega);rw[List.drop_zero,hp] at lp;have ll:=af l;have lO:=af O;have mi:bp aq F7 [.list 1 (ints l),.list 1 [.int .i64 v]] []=some (.list 1 (ints (minus l [v])),[]):=OP l [v] (by omega) (by simp);have sn:ints (O++[v])=ints O++[.int .i64 v]:=by simp[ints]
 have l0:(0:Int)<l.length:=by omega
 have lk:O.length+1<=jx:=by unfold jx; omega
 simp only[fi] at lp;unfold roS jv at lp;dsimp only at lp;unfold ruS jv Uw;rw[sn];clear hp hW;generalize ints (minus l [v])=M1 at *;generalize ints l=L1 at *;generalize ints O=O1 at *;generalize bU Es=Y at *;have tk:(O1++[AV.int .i64 v]).take (O.length+1)=O1++[AV.int .i64 v]:=aZ (by simp; omega);have tk2:O1.take O.length=O1:=aZ (by omega);simp[Hi,Hh,Hg,zI,lp,ll,lO,mi,hl,lk,tk,tk2,dP,pl,sQa6,iQa6]
theorem ajJ {N:Nat} {Es:List Ed} (hG:jh (N:Int) Es) (hE:Es.length<1000000):∀(n:Nat) (l O:List Int),l.length=n->n+O.length<=64->Up l->(∀v∈l,0<=v/\v<(N:Int))->∃o ds,l9 (dn N Es) (KP l) o ds/\aW aq 0 (.loop Uw) (ruS N Es l O [])=some (.exit 0,ruS N Es [] (O++ns o) [(22,.bool false)]):=by
 have hN:N<=64:=by have:=hG.1.2; omega
 have IM:∀v,v<N->dj N Es v=fG ((dn N Es).getD v 0):=fun v hv=>(RV hG hv).symm;intro n
 induction n with
 |zero=>
   intro l O h0 _ _ _;obtain rfl:l=[]:=List.eq_nil_of_length_eq_zero h0;refine⟨[],[],.nil,bq ?_⟩;rw[show ns []=[] from rfl,List.append_nil];unfold ruS jv Uw;rw[c8];generalize ints O=O1 at *;generalize bU Es=Y at *;simp[Hi,Hh,Hg,zI]
 |succ n ih=>
   intro l O hl hO hu hb;obtain⟨v,d,h1,h2,h3,h4⟩:=abG hN IM hu hb (by intro e; subst e; simp at hl);have bd:=agf hG hE l O (by omega) (by omega) (by omega) hb v d h1;obtain⟨u,m⟩:=oS l [(v:Int)]
   have hlen:(minus l [(v:Int)]).length=n:=by
    have a:=Dp (A:=(v:Int)::minus l [(v:Int)]) (B:=l) (List.nodup_cons.2 ⟨fun z=>by have:=((m v).1 z).2; simp at this,u.imp fun{a b} h=>by omega⟩) fun x hx=>by
     rcases aK.1 hx with rfl|hx
     ·exact h2
     ·exact ((m x).1 hx).1
    have b:=Dp (A:=l) (B:=(v:Int)::minus l [(v:Int)]) (hu.imp fun{a b} h=>by omega) fun x hx=>by
     by_cases q:x=(v:Int)
     ·rw[q]; exact cH
     ·exact dh _ ((m x).2 ⟨hx,by simpa using q⟩)
    simp only[List.length_cons] at a b;omega
   obtain⟨o,ds,p1,p2⟩:=ih (minus l [(v:Int)]) (O++[(v:Int)]) hlen (by simp; omega) u (fun x hx=>hb x ((m x).1 hx).1);refine⟨v::o,d::ds,.cons h4 (by rw[ag8 hN IM hb h3]; exact p1),(aS bd).trans ?_⟩;rw[p2];simp[ns]
theorem acx {N:Nat} {Es:List Ed} (hG:jh (N:Int) Es) (hE:Es.length<1000000):∃o ds,l9 (dn N Es) (2 ^ N-1) o ds/\bp aq nQK [.agg [.int .i64 N,.list 2 (bU Es)]] []=some (.dJ [.list 1 (ints (ns o)),.int .i64 0],[]):=by
 have hN:N<=64:=by have:=hG.1.2; omega
 have g:=iM N Es (by omega);rw[eB.2 hG] at g;have hz:=Vn (dn N Es) hN 0;have hl:(dN (N:Int)).length=N:=by unfold dN; rw[jQ,List.length_range]; omega
 obtain⟨o,ds,p1,lp⟩:=ajJ hG hE N (dN (N:Int)) [] hl (by simp; omega) hz.up hz.bd
 have em:KP (dN (N:Int))=2 ^ N-1:=uQ fun j=>by
  rw[mR fun x hx=>(hz.bd x hx).1,Nat.testBit_two_pow_sub_one,m8,decide_eq_true_eq,decide_eq_true_eq];constructor
  ·intro h; have:=hz.bd _ h; omega
  ·intro h;unfold dN;exact gO.2 ⟨j,List.mem_range.2 (by omega),rfl⟩
 rw[em] at p1;refine⟨o,ds,p1,?_⟩;have n4:=AW (N:Int);have lo:=af (ns o);have fo:=gT (ns o);have po:=cY (ns o);have tk:(ints (ns o)).take (ns o).length=ints (ns o):=aZ (by omega);unfold ruS jv at lp;rw[List.nil_append,c8] at lp;rw[pM sQK (Nat.le_of_ble_eq_true rfl)];unfold qQK cQK;generalize ints (ns o)=O1 at *;generalize ints (dN (N:Int))=R1 at *;generalize bU Es=Y at *;simp[Hp,Ho,Hn,Hm,Hk,Hj,zH,g,lp,n4,lo,tk,aO,bk,bf,dP,pl,FD,Gs,sQQ,iQQ]
end Go.BmP
