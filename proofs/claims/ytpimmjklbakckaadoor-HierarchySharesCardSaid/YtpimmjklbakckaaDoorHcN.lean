/- core.Numbers. -/
import Derived.Test.YtpimmjklbakckaaDoorLfP
import Derived.Test.YtpimmjklbakckaaDoorDegC
import Derived.Test.YtpimmjklbakckaaDoorHcE
set_option linter.unusedSimpArgs false
set_option linter.unusedVariables false
set_option maxRecDepth 100000
set_option maxHeartbeats 8000000
open List renaming drop_eq_getElem_cons → cm, drop_length → dn, drop_zero → dN, length_cons → dz, mem_cons → aK, mem_cons_of_mem → eH, replicate → aV, take_of_length_le → dE
open Nat renaming le_of_ble_eq_true → aF, or_lt_two_pow → xC, pow_lt_pow_right → lR
open Option.some renaming injEq → af
open Prod renaming fst → dW
namespace Go.BmP
open Go.Am Go.Bm
theorem Xz {N:Nat} {Es:List Ed} (hG:Jz (N:Int) Es) (hE:Es.length<1000000) (h0:0<N):∃o ds,wq (jL N Es) (2 ^ N-1) o ds/\bS aD nQl [.agg [.int .i64 N,.list 2 (iQ Es)]] [qa N (iQ Es)]=some (.dA [.sl 1 3 0 N,.int .i64 0],[qa N (iQ Es),qa N (iQ Es),some (ints (ns o)),some (ints (pR o ds 0 (aV N 0)))]):=by
 obtain⟨o,ds,hp,pr⟩:=Vz hG hE h0;refine⟨o,ds,hp,?_⟩;have g:=Xg (N:Int) Es (by omega);rw[T8.2 hG] at g;obtain⟨a1,a2,a3,a4,a5,a6,a7,a8,a9,aa,ab⟩:=bT (ns o);obtain⟨b1,b2,b3,b4,b5,b6,b7,b8,b9,ba,bb⟩:=bT (pR o ds 0 (aV N 0));rw[fZ sQl (aF rfl)];unfold qa at *;generalize ints (ns o)=O1 at *;generalize ints (pR o ds 0 (aV N 0))=L1 at *;generalize iQ Es=Y at *;unfold qQl cQl;simp[abb,aba,aa9,aa8,aa7,aa6,g,pr,a1,a2,a3,a4,a5,a6,a7,a8,a9,aa,ab,b1,b2,b3,b4,b5,b6,b7,b8,b9,ba,bb,aN,cB,bU,kK,fo,eC,pl,gQ,dh,kS,lQ,eU,eB,cT,ft,hU,nn,eV,mP,mQ,il,sQz,iQz,sQy,iQy]
/- The sets of a level: hierarchy.Cores$1. -/
def hH (N:Nat) (Y O1 L1 E1:List AV):Heap:=[qa N Y,qa N Y,some O1,some L1,some [.sl 1 3 0 N],some E1]
def LN (k:Int):List Int->Nat->Nat->Nat
 |[],_,m=>m
 |n::r,v,m=>LN k r (v+1) (if k<=n then m ||| 2 ^ v else m)
def XM (N:Nat) (Y O1 L1 E1:List AV) (k:Int) (m:Nat) (i:Int) (J:Env):St:=⟨(0,.int .i64 k)::(2,.ptr 0 0)::(5,.int .u64 m)::(8,.sl 1 3 0 N)::(9,.int .i64 N)::(10,.int .i64 i)::J,hH N Y O1 L1 E1⟩
theorem AW (f:Nat->Rt):∀(l:List Int) (n:Nat),er f n (ints l)=ints l
 |[],_=>rfl
 |x::r,n=>by
   show AV.int .i64 x::er f (n+1) (ints r)=_;rw[AW f r]; rfl
theorem R7 (N:Nat) (hN:N<=64) (Y O1 E1:List AV) (L:List Int) (hL:L.length=N) (k:Int):∀(n i m:Nat),i+n=N->m<18446744073709551616->bh aD 6 (.loop Rs) (XM N Y O1 (ints L) E1 k m i [])=some (.exit 0,XM N Y O1 (ints L) E1 k (LN k (L.drop i) i m) N [(11,.bool false)])
 |0,i,m,hi,hm=>by
   obtain rfl:i=N:=by omega
   rw[<-hL,dn,hL];refine cv ?_;unfold XM hH qa LN Rs;generalize ints L=L1 at *;simp[PD,PC,PB,PA,Pz,Py,Px,Pw,Pu]
 |n+1,i,m,hi,hm=>by
   have bY:i<L.length:=by omega
   have h64:i<64:=by omega
   have p64:2 ^ i<18446744073709551616:=by
    have:=lR (a:=2) (by decide) h64;rw[show (18446744073709551616:Nat)=2 ^ 64 from rfl]; exact this
   have o64:m ||| 2 ^ i<18446744073709551616:=xC (n:=64) hm p64
   have ih:=R7 N hN Y O1 E1 L hL k n (i+1) (if k<=L[i] then m ||| 2 ^ i else m) (by omega) (by split<;>assumption);rw[cm bY,LN];refine (bI ?_).trans ih;have k1:(i:Int)<N:=by omega
   have kn:i<N:=by omega
   have hw:=fT (i:=i) (by omega);have g3:(ints L)[i]?=some (.int .i64 L[i]):=by rw[List.getElem?_eq_getElem (by rw[ah]; exact bY),bG]
   have g4:∀h,(ints L)[i]'h=.int .i64 L[i]:=fun h=>bG _ _ _;have ll:=ah L;have mb:=zL i h64;have w1:=u64_or_nat m (2 ^ i) hm p64;obtain⟨b1,b2,b3,b4,b5,b6,b7,b8,b9,ba,bb⟩:=bT L;have n1:∀f n,er f n (ints L)=ints L:=fun f n=>AW f L n;clear ih;unfold XM hH qa Rs;generalize ints L=L1 at *;generalize L[i]=x at *;generalize (m ||| 2 ^ i:Nat)=M2 at *;generalize (2 ^ i:Nat)=p at *;by_cases q:k<=x<;>simp[PD,PC,PB,PA,Pz,Py,Px,Pw,Pu,k1,kn,hi,hw,g3,g4,ll,hL,bY,q,n1,mb,w1,b1,b2,b3,b4,b5,b6,b7,b8,b9,ba,bb,idx,aN,qA,sQp,iQp]
theorem N5 (k:Int):∀(L:List Int) (v m:Nat),v+L.length<=64->m<18446744073709551616->LN k L v m<18446744073709551616
 |[],_,m,_,hm=>hm
 |n::r,v,m,hv,hm=>by
   rw[LN];rw[dz] at hv;refine N5 k r (v+1) _ (by omega) ?_;split
   ·have h64:v<64:=by omega
    have p64:2 ^ v<18446744073709551616:=by
     have:=lR (a:=2) (by decide) h64;rw[show (18446744073709551616:Nat)=2 ^ 64 from rfl]; exact this
    exact xC (n:=64) hm p64
   ·exact hm
theorem IW (k:Int):∀(L:List Int) (v m j:Nat),(LN k L v m).testBit j=(m.testBit j||(decide (v<=j)&&decide (j-v<L.length)&&decide (k<=L.getD (j-v) 0)))
 |[],v,m,j=>by simp[LN]
 |n::r,v,m,j=>by
   rw[LN,IW k r]
   have e:(if k<=n then m ||| 2 ^ v else m).testBit j=(m.testBit j||(decide (v=j)&&decide (k<=n))):=by
    split
    ·rename_i h; rw[Nat.testBit_or,Nat.testBit_two_pow]; simp[h]
    ·rename_i h; simp[h]
   rw[e,Bool.or_assoc];congr 1;by_cases h1:v=j
   ·subst h1;have h3:¬(v+1<=v):=by omega
    simp[h3]
   ·by_cases h2:v<=j
    ·obtain⟨t,rfl⟩:∃t,j=v+1+t:=⟨j-(v+1),by omega⟩;rw[show v+1+t-v=t+1 by omega,show v+1+t-(v+1)=t by omega];have h3:¬v=v+1+t:=by omega
     have h4:v<=v+1+t:=by omega
     have h5:v+1<=v+1+t:=by omega
     simp[h3,h4,h5]<;>rfl
    ·have h3:¬v+1<=j:=by omega
     simp[h1,h2,h3]
structure Lm (D:List AV):Prop where
 bo:cU D=[]
 ow:bF D=false
 mp:∀g,cK g D=D
 pl:eC D=true
 pt:eV D=[]
 np:∀b,jG b D=true
 pp:fo D=true
theorem zO {D:List AV} (h:Lm D) (p:Rt) (f:Nat->Rt) (j:Nat):Jd p f j D=none:=Jc (by rw[h.bo]; simp)
theorem rH {D:List AV} (h:Lf D) (p:Rt) (f:Nat->Rt) (j:Nat):Jd p f j D=none:=Jc (by rw[h.bo]; simp)
theorem ad8 {N:Nat} {Es:List Ed} (hG:Jz (N:Int) Es) (hE:Es.length<1000000) (o L:List Int) (hL:L.length=N) (E1:List AV) (hE1:Lm E1) (k:Int) :
  ∃ l,(Jk (jL N Es) (LN k L 0 0) (LN k L 0 0) l/\l.length<=64)/\bS aD nQo [.int .i64 k,.ptr 4 0,.ptr 0 0] (hH N (iQ Es) (ints o) (ints L) E1)=some (.list 1 (kY l),hH N (iQ Es) (ints o) (ints L) E1):=by
 have hN:N<=64:=by have:=hG.1.2; omega
 have gl:=N5 k L 0 0 (by omega) (by omega)
 obtain⟨l,l1,l2⟩:=NY hG hE gl (fun j hj=>by
  rw[IW] at hj;simp at hj;omega)
 refine⟨l,l1,?_⟩;have lp:=R7 N hN (iQ Es) (ints o) E1 L hL k N 0 0 (by omega) (by omega);rw[dN] at lp;have x1:=rH (bT o);have x2:=rH (bT L);have x3:=zO hE1;obtain⟨a1,a2,a3,a4,a5,a6,a7,a8,a9,aa,ab⟩:=bT o;obtain⟨b1,b2,b3,b4,b5,b6,b7,b8,b9,ba,bb⟩:=bT L;obtain⟨c1,c2,c3,c4,c5,c6,c8⟩:=hE1;have ll:=ah L;rw[fZ sQo (aF rfl)];unfold XM hH qa at *;simp only[mB] at lp;generalize LN k L 0 0=M at *;generalize kY l=G at *;generalize ints o=O1 at *;generalize ints L=L1 at *;generalize iQ Es=Y at *;unfold qQo cQo;simp[PD,PC,PB,PA,Pz,Py,Px,Pw,Pu,x1,x2,x3,lp,l2,ll,hL,a1,a2,a3,a4,a5,a6,a7,a8,a9,aa,ab,b1,b2,b3,b4,b5,b6,b7,b8,b9,ba,bb,c1,c2,c3,c4,c5,c6,c8,aN,qA,cB,bU,ku,kK,fo,eC,pl,gQ,dh,kS,lQ,eU,eB,cT,ft,hU,nn,eV,mP,mQ,il,sQq,iQq]
/- hierarchy.gathered: the sets of a level. -/
theorem mU (a:List (List Int × Int)):Lm (yQ a):=by
 induction a with
 |nil=>exact⟨rfl,rfl,fun _=>rfl,rfl,rfl,fun _=>rfl,rfl⟩
 |cons p r ih=>
   refine⟨ih.bo,ih.ow,fun g=>?_,?_,ih.pt,fun b=>ih.np b,?_⟩
   ·show AV.dA [.str (kV p.1),.int .i64 p.2]::cK g (yQ r)=_;rw[ih.mp]; rfl
   ·show (true&&eC (yQ r))=true;rw[ih.pl]; rfl
   ·show (true&&fo (yQ r))=true;rw[ih.pp]; rfl
def Co:AV:=.func (.func nQo) [] [.ptr 4 0,.ptr 0 0]
def oN (a:List (List Int × Int)):List AV:=a.map fun p=>en (0,-1,p.1)
theorem vq (a:List (List Int × Int)):(oN a).length=a.length:=List.length_map _
def afZ (a:List (List Int × Int)) (J:Env):Env:=(1,Co)::(5,nB 5)::(6,.own 3 (oN a))::J
def F3 (N:Nat) (Y O1 L1:List AV) (a:List (List Int × Int)) (k:Int) (most:Int) (gs:List Nat) (i:Int) (J:Env):St:=
 ⟨(1,Co)::(5,nB 5)::(6,.own 3 (oN a))::(7,.int .i64 k)::(17,.int .i64 most)::(18,.int .i64 k)::(23,.list 1 (kY gs))::(24,.int .i64 gs.length)::(25,.int .i64 i)::J,hH N Y O1 L1 (yQ a)⟩
theorem adP {N:Nat} {Y:List AV} (o L:List Int) (a:List (List Int × Int)) (ha:∀p∈a,Lo p.1) (Jv:a.length<=1000) (k most:Int) (gs:List Nat) (i:Nat) (hi:i<gs.length) (rj:gs.length<=1000) (hs:Lo (cI gs[i])) (hf:oV a (cI gs[i]) 0=none) :
  bh aD 5 Em (F3 N Y (ints o) (ints L) a k most gs i [])=some (.normal,F3 N Y (ints o) (ints L) (iV a (cI gs[i]) k) k most gs (i+1:Nat) []):=by
 have k1:(i:Int)<gs.length:=by omega
 have hw:=fT (i:=i) (by omega);have g3:(kY gs)[i]?=some (.list 1 (ints (cI gs[i]))):=by simp[kY,hi]
 have g4:∀h,(kY gs)[i]'h=.list 1 (ints (cI gs[i])):=fun h=>by simp[kY]
 have gl:=lH gs;have bl:=v7 gs[i];have kr:=IC (cI gs[i]) (by omega) hs;have mf:=wR hs ha 0;rw[hf] at mf;have mp:=Ri (cI gs[i]) k a;rw[hf] at mp
 have kq:wV .yE (.str (kV (cI gs[i]))) (.str (kV (cI gs[i])))=some true:=by
  simp only[wV,af]; exact (MapKept.bytes_beq _ _).2 rfl
 have us:=wC a (cI gs[i]) k;rw[hf] at us
 have pA:oN (iV a (cI gs[i]) k)=oN a++[en (0,-1,cI gs[i])]:=by
  have e:∀b:List (List Int × Int),oN b=(b.map dW).map fun s=>en (0,-1,s):=fun b=>by simp[oN]
  rw[e,us,e]; simp
 have pl:=vq a;have hL1:a.length+1<=4294967296:=by omega
 have tk1:(oN a).take a.length=oN a:=dE (by omega);have tk2:(oN a++[en (0,-1,cI gs[i])]).take (a.length+1)=oN a++[en (0,-1,cI gs[i])]:=dE (by simp[pl]);have x1:=rH (bT o);have x2:=rH (bT L);have x3:=zO (mU a);have x4:=zO (mU (iV a (cI gs[i]) k));obtain⟨a1,a2,a3,a4,a5,a6,a7,a8,a9,aa,ab⟩:=bT o;obtain⟨b1,b2,b3,b4,b5,b6,b7,b8,b9,ba,bb⟩:=bT L;obtain⟨c1,c2,c3,c4,c5,c6,c8⟩:=mU a;obtain⟨d1,d2,d3,d4,d5,d6,d8⟩:=mU (iV a (cI gs[i]) k);unfold F3 hH qa Co;rw[pA];unfold en at *;generalize yQ (iV a (cI gs[i]) k)=E2 at *;generalize yQ a=E1 at *;generalize oN a=Pa at *;generalize kV (cI gs[i])=K at *;generalize ints (cI gs[i])=S1 at *;generalize kY gs=G at *;generalize ints o=O1 at *;generalize ints L=L1 at *;unfold Em;simp[oC,oB,oA,ox,ot,oq,om,oi,oh,oe,jA,jz,jy,jx,jw,jv,ju,jt,js,jr,jq,jo,jm,jl,jj,ji,jh,jg,jf,je,jd,jc,k1,hw,g3,g4,gl,hi,kr,mf,mp,kq,hL1,p7,pl,tk1,tk2,x1,x2,x3,x4,a1,a2,a3,a4,a5,a6,a7,a8,a9,aa,ab,b1,b2,b3,b4,b5,b6,b7,b8,b9,ba,bb,c1,c2,c3,c4,c5,c6,c8,d1,d2,d3,d4,d5,d6,d8,mapOf,nB,Tv,idx,aN,eC,pl,uF,fz,IY,IU,rep,gj,sQA,iQA]
theorem adO {N:Nat} {Y:List AV} (o L:List Int) (a:List (List Int × Int)) (ha:∀p∈a,Lo p.1) (Jv:a.length<=1000) (k most:Int) (gs:List Nat) (i:Nat) (hi:i<gs.length) (rj:gs.length<=1000) (hs:Lo (cI gs[i])) {n:Nat} {z:Int} (hf:oV a (cI gs[i]) 0=some (n,.int .i64 z)) :
  bh aD 5 Em (F3 N Y (ints o) (ints L) a k most gs i [])=some (.normal,F3 N Y (ints o) (ints L) (iV a (cI gs[i]) k) k most gs (i+1:Nat) []):=by
 have k1:(i:Int)<gs.length:=by omega
 have hw:=fT (i:=i) (by omega);have g3:(kY gs)[i]?=some (.list 1 (ints (cI gs[i]))):=by simp[kY,hi]
 have g4:∀h,(kY gs)[i]'h=.list 1 (ints (cI gs[i])):=fun h=>by simp[kY]
 have gl:=lH gs;have bl:=v7 gs[i];have kr:=IC (cI gs[i]) (by omega) hs;have mf:=wR hs ha 0;rw[hf] at mf;have mp:=Ri (cI gs[i]) k a;rw[hf] at mp
 have kq:wV .yE (.str (kV (cI gs[i]))) (.str (kV (cI gs[i])))=some true:=by
  simp only[wV,af]; exact (MapKept.bytes_beq _ _).2 rfl
 have us:=wC a (cI gs[i]) k;rw[hf] at us
 have pA:oN (iV a (cI gs[i]) k)=oN a:=by
  have e:∀b:List (List Int × Int),oN b=(b.map dW).map fun s=>en (0,-1,s):=fun b=>by simp[oN]
  rw[e,us,e]; simp
 have pl:=vq a;have x1:=rH (bT o);have x2:=rH (bT L);have x3:=zO (mU a);have x4:=zO (mU (iV a (cI gs[i]) k));obtain⟨a1,a2,a3,a4,a5,a6,a7,a8,a9,aa,ab⟩:=bT o;obtain⟨b1,b2,b3,b4,b5,b6,b7,b8,b9,ba,bb⟩:=bT L;obtain⟨c1,c2,c3,c4,c5,c6,c8⟩:=mU a;obtain⟨d1,d2,d3,d4,d5,d6,d8⟩:=mU (iV a (cI gs[i]) k);unfold F3 hH qa Co;rw[pA];generalize yQ (iV a (cI gs[i]) k)=E2 at *;generalize yQ a=E1 at *;generalize oN a=Pa at *;generalize kV (cI gs[i])=K at *;generalize ints (cI gs[i])=S1 at *;generalize kY gs=G at *;generalize ints o=O1 at *;generalize ints L=L1 at *;unfold Em;simp[oC,oB,oA,ox,ot,oq,om,oi,oh,oe,jA,jz,jy,jx,jw,jv,ju,jt,js,jr,jq,jo,jm,jl,jj,ji,jh,jg,jf,je,jd,jc,k1,hw,g3,g4,gl,hi,kr,mf,mp,kq,pl,x1,x2,x3,x4,a1,a2,a3,a4,a5,a6,a7,a8,a9,aa,ab,b1,b2,b3,b4,b5,b6,b7,b8,b9,ba,bb,c1,c2,c3,c4,c5,c6,c8,d1,d2,d3,d4,d5,d6,d8,mapOf,nB,Tv,idx,aN,eC,pl,uF,fz,IY,IU,rep,gj,sQA,iQA]
theorem LS:∀{a:List (List Int × Int)} {s:List Int} {i:Nat} {p:Nat × AV},oV a s i=some p->∃n z,p=(n,.int .i64 z)
 |[],_,_,_,h=>by cases h
 |(t,j)::r,s,i,p,h=>by
   unfold oV at h;split at h
   ·simp only[af] at h; subst h; exact⟨_,_,rfl⟩
   ·exact LS h
theorem zj:∀{a:List (List Int × Int)} {s:List Int} {k:Int} {p:List Int × Int},p∈iV a s k->p.1=s\/p∈a
 |[],s,k,p,h=>by simp[iV] at h; subst h; exact .inl rfl
 |(t,j)::r,s,k,p,h=>by
   unfold iV at h;split at h
   ·rename_i e;rcases aK.1 h with rfl|h
    ·exact .inl e
    ·exact .inr (eH _ h)
   ·rcases aK.1 h with rfl|h
    ·exact .inr List.mem_cons_self
    ·exact (zj h).imp id fun h=>eH _ h
theorem CT:∀(a:List (List Int × Int)) (s:List Int) (k:Int),(iV a s k).length<=a.length+1
 |[],s,k=>by simp[iV]
 |(t,j)::r,s,k=>by
   have:=CT r s k;unfold iV;split<;>simp only[dz]<;>omega
def rh (k:Int) (a:List (List Int × Int)) (l:List (List Int)):List (List Int × Int):=l.foldl (fun a s=>iV a s k) a
theorem RO {N:Nat} {Y:List AV} (o L:List Int) (k most:Int) (gs:List Nat) (rj:gs.length<=64) (hs:∀R∈gs,Lo (cI R)):∀(n i:Nat) (a:List (List Int × Int)),(∀p∈a,Lo p.1)->i+n=gs.length->a.length+n<=1000 ->
  bh aD 5 (.loop Em) (F3 N Y (ints o) (ints L) a k most gs i [])=some (.exit 2,F3 N Y (ints o) (ints L) (rh k a ((gs.drop i).map cI)) k most gs gs.length [(26,.bool false)])
 |0,i,a,ha,hi,Jv=>by
   obtain rfl:i=gs.length:=by omega
   rw[dn];have e:rh k a (([]:List Nat).map cI)=a:=rfl;rw[e];refine cv ?_;have gl:=lH gs;obtain⟨c1,c2,c3,c4,c5,c6,c8⟩:=mU a;unfold F3 hH qa Co;generalize yQ a=E1 at *;generalize oN a=Pa at *;generalize kY gs=G at *;generalize ints o=O1 at *;generalize ints L=L1 at *;unfold Em;simp[oC,oB,oA,ox,ot,oq,om,oi,oh,oe,jA,jz,jy,jx,jw,jv,ju,jt,js,jr,jq,jo,jm,jl,jj,ji,jh,jg,jf,je,jd,jc,nB]
 |n+1,i,a,ha,hi,Jv=>by
   have bY:i<gs.length:=by omega
   have hsi:=hs gs[i] (List.getElem_mem bY);have ul:=CT a (cI gs[i]) k;have ih:=RO (Y:=Y) (N:=N) o L k most gs rj hs n (i+1) (iV a (cI gs[i]) k) (fun p hp=>(zj hp).elim (fun e=>by rw[e]; exact hsi) (ha p)) (by omega) (by omega);rw[cm bY,List.map_cons];have e:rh k a (cI gs[i]::(gs.drop (i+1)).map cI)=rh k (iV a (cI gs[i]) k) ((gs.drop (i+1)).map cI):=rfl;rw[e];cases hf:oV a (cI gs[i]) 0 with
   |none=>exact (bI (adP o L a ha (by omega) k most gs i bY (by omega) hsi hf)).trans ih
   |some p=>
     obtain⟨m,z,rfl⟩:=LS hf;exact (bI (adO o L a ha (by omega) k most gs i bY (by omega) hsi hf)).trans ih
/- hierarchy.gathered: all levels. -/
theorem Ro (R:Nat):Lo (cI R):=fun x hx=>by
 obtain⟨j,rfl,h,_⟩:=jJ.1 hx;omega
def N7 (N:Nat) (Y O1 L1:List AV) (a:List (List Int × Int)) (k:Int) (most:Int) (J:Env):St:=
 ⟨(1,Co)::(5,nB 5)::(6,.own 3 (oN a))::(17,.int .i64 most)::(18,.int .i64 k)::J,hH N Y O1 L1 (yQ a)⟩
theorem Xi {N:Nat} {Es:List Ed} (hG:Jz (N:Int) Es) (hE:Es.length<1000000) (o L:List Int) (hL:L.length=N) (a:List (List Int × Int)) (ha:∀p∈a,Lo p.1) (k:Nat) (hk:k<100) (most:Int) (hm:(k:Int)<most) (Jv:a.length<=900) :
  ∃ l,(Jk (jL N Es) (LN k L 0 0) (LN k L 0 0) l/\l.length<=64)/\bh aD 5 G0 (N7 N (iQ Es) (ints o) (ints L) a k most [])=some (.normal,N7 N (iQ Es) (ints o) (ints L) (rh k a (l.map cI)) (k+1:Nat) most []):=by
 obtain⟨l,l1,l2⟩:=ad8 hG hE o L hL (yQ a) (mU a) k;refine⟨l,l1,?_⟩;have lp:=RO (Y:=iQ Es) (N:=N) o L k most l l1.2 (fun R _=>Ro R) l.length 0 a ha (by omega) (by have:=l1.2; omega);rw[dN] at lp;have hw:=fT (i:=k) (by omega);have gl:=lH l;have x1:=rH (bT o);have x2:=rH (bT L);have x3:=zO (mU a);have x4:=zO (mU (rh k a (l.map cI)));obtain⟨a1,a2,a3,a4,a5,a6,a7,a8,a9,aa,ab⟩:=bT o;obtain⟨b1,b2,b3,b4,b5,b6,b7,b8,b9,ba,bb⟩:=bT L;obtain⟨c1,c2,c3,c4,c5,c6,c8⟩:=mU a;obtain⟨d1,d2,d3,d4,d5,d6,d8⟩:=mU (rh k a (l.map cI));unfold F3 N7 hH qa Co nB at *;simp only[mB] at lp;generalize yQ (rh k a (l.map cI))=E2 at *;generalize oN (rh k a (l.map cI))=Pb at *;generalize yQ a=E1 at *;generalize oN a=Pa at *;generalize kY l=G at *;generalize ints o=O1 at *;generalize ints L=L1 at *;generalize iQ Es=Y at *;unfold G0;simp[oC,oB,oA,ox,ot,oq,om,oi,oh,oe,jA,jz,jy,jx,jw,jv,ju,jt,js,jr,jq,jo,jm,jl,jj,ji,jh,jg,jf,je,jd,jc,l2,lp,hm,hw,gl,x1,x2,x3,x4,a1,a2,a3,a4,a5,a6,a7,a8,a9,aa,ab,b1,b2,b3,b4,b5,b6,b7,b8,b9,ba,bb,c1,c2,c3,c4,c5,c6,c8,d1,d2,d3,d4,d5,d6,d8,nB,uF,aN,kK,fo,eC,pl,gQ,dh,kS,lQ,eU,eB,cT,ft,hU,nn,eV,mP,sQo,iQo]
inductive Yp (A:List Nat) (L:List Int):Nat->Nat->List (List Int × Int)->List (List Int × Int)->Prop
 |nil (k:Nat) (a:List (List Int × Int)):Yp A L k 0 a a
 |cons (k n:Nat) (a b:List (List Int × Int)) (l:List Nat) (h1:Jk A (LN k L 0 0) (LN k L 0 0) l) (h2:Yp A L (k+1) n (rh k a (l.map cI)) b):Yp A L k (n+1) a b
theorem Rl (k:Int):∀(l:List Nat) (a:List (List Int × Int)),(∀p∈a,Lo p.1)->∀p∈rh k a (l.map cI),Lo p.1
 |[],a,ha=>ha
 |R::r,a,ha=>Rl k r (iV a (cI R) k) fun p hp=>(zj hp).elim (fun e=>by rw[e]; exact Ro R) (ha p)
theorem KR (k:Int):∀(l:List Nat) (a:List (List Int × Int)),(rh k a (l.map cI)).length<=a.length+l.length
 |[],a=>Nat.le_refl _
 |R::r,a=>by
   have h1:=KR k r (iV a (cI R) k);have h2:=CT a (cI R) k;rw[dz];have e:rh k a ((R::r).map cI)=rh k (iV a (cI R) k) (r.map cI):=rfl;rw[e]; omega
theorem RN {N:Nat} {Es:List Ed} (hG:Jz (N:Int) Es) (hE:Es.length<1000000) (o L:List Int) (hL:L.length=N) (M:Nat) (hM:M<=14):∀(n k:Nat) (a:List (List Int × Int)),k+n=M->(∀p∈a,Lo p.1)->a.length<=64*k ->
  ∃ b,(Yp (jL N Es) L k n a b/\(∀p∈b,Lo p.1)/\b.length<=900)/\bh aD 5 (.loop G0) (N7 N (iQ Es) (ints o) (ints L) a k M [])=some (.exit 0,N7 N (iQ Es) (ints o) (ints L) b M M [(19,.bool false)])
 |0,k,a,hk,ha,Jv=>by
   obtain rfl:k=M:=by omega
   refine⟨a,⟨.nil _ _,ha,by omega⟩,?_⟩;refine cv ?_;unfold N7 hH qa Co nB;generalize yQ a=E1 at *;generalize oN a=Pa at *;generalize ints o=O1 at *;generalize ints L=L1 at *;generalize iQ Es=Y at *;unfold G0;simp[oC,oB,oA,ox,ot,oq,om,oi,oh,oe,jA,jz,jy,jx,jw,jv,ju,jt,js,jr,jq,jo,jm,jl,jj,ji,jh,jg,jf,je,jd,jc]
 |n+1,k,a,hk,ha,Jv=>by
   obtain⟨l,⟨l1,l3⟩,l2⟩:=Xi hG hE o L hL a ha k (by omega) (M:Int) (by omega) (by omega);have h1:=KR k l a;obtain⟨b,⟨b1,b2⟩,b3⟩:=RN hG hE o L hL M hM n (k+1) (rh k a (l.map cI)) (by omega) (Rl k l a ha) (by omega);exact⟨b,⟨.cons k n a b l l1 b1,b2⟩,(bI l2).trans b3⟩
end Go.BmP
