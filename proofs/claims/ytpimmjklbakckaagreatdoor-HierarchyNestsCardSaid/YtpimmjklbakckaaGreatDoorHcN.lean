/- core.Numbers. -/
import Derived.Test.YtpimmjklbakckaaGreatDoorLfP
import Derived.Test.YtpimmjklbakckaaGreatDoorDegC
import Derived.Test.YtpimmjklbakckaaGreatDoorHcE
set_option linter.unusedSimpArgs false
set_option linter.unusedVariables false
set_option maxRecDepth 100000
set_option maxHeartbeats 8000000
open List renaming drop_eq_getElem_cons → bH, drop_length → cI, drop_zero → dc, length_cons → cY, mem_cons → aO, mem_cons_of_mem → dm, replicate → aT, take_of_length_le → dt
open Nat renaming le_of_ble_eq_true → aF, or_lt_two_pow → yJ, pow_lt_pow_right → lP
open Option.some renaming injEq → af
open Prod renaming fst → eH
namespace Go.BmP
open Go.Am Go.Bm
theorem aaf {N:Nat} {Es:List Ed} (hG:vW (N:Int) Es) (hE:Es.length<1000000) (h0:0<N):∃o ds,xw (ft N Es) (2 ^ N-1) o ds/\bU aC nQl [.agg [.int .i64 N,.list 2 (fi Es)]] [my N (fi Es)]=some (.dF [.sl 1 3 0 N,.int .i64 0],[my N (fi Es),my N (fi Es),some (ints (ns o)),some (ints (qE o ds 0 (aT N 0)))]):=by
 obtain⟨o,ds,hp,pr⟩:=Yd hG hE h0;refine⟨o,ds,hp,?_⟩;have g:=ZW (N:Int) Es (by omega);rw[CC.2 hG] at g;obtain⟨a1,a2,a3,a4,a5,a6,a7,a8,a9,aa,ab⟩:=bM (ns o);obtain⟨b1,b2,b3,b4,b5,b6,b7,b8,b9,ba,bb⟩:=bM (qE o ds 0 (aT N 0));rw[fK sQl (aF rfl)];unfold my at *;generalize ints (ns o)=O1 at *;generalize ints (qE o ds 0 (aT N 0))=L1 at *;generalize fi Es=Y at *;unfold qQl cQl;simp[ac0,acZ,acY,acX,acW,acV,g,pr,a1,a2,a3,a4,a5,a6,a7,a8,a9,aa,ab,b1,b2,b3,b4,b5,b6,b7,b8,b9,ba,bb,aJ,cc,bR,lN,fI,eE,pl,iu,dD,lV,mO,fy,eX,dn,gn,ja,rh,fD,qR,o7,iX,sQB,iQB,sQA,iQA]
/- The sets of a level: hierarchy.Cores$1. -/
def hH (N:Nat) (Y O1 L1 E1:List AV):Heap:=[my N Y,my N Y,some O1,some L1,some [.sl 1 3 0 N],some E1]
def Oe (k:Int):List Int->Nat->Nat->Nat
 |[],_,m=>m
 |n::r,v,m=>Oe k r (v+1) (if k<=n then m ||| 2 ^ v else m)
def c1St (N:Nat) (Y O1 L1 E1:List AV) (k:Int) (m:Nat) (i:Int) (J:Env):St:=⟨(0,.int .i64 k)::(2,.ptr 0 0)::(5,.int .u64 m)::(8,.sl 1 3 0 N)::(9,.int .i64 N)::(10,.int .i64 i)::J,hH N Y O1 L1 E1⟩
theorem B9 (f:Nat->Rt):∀(l:List Int) (n:Nat),eF f n (ints l)=ints l
 |[],_=>rfl
 |x::r,n=>by
   show AV.int .i64 x::eF f (n+1) (ints r)=_;rw[B9 f r]; rfl
theorem UI (N:Nat) (hN:N<=64) (Y O1 E1:List AV) (L:List Int) (hL:L.length=N) (k:Int):∀(n i m:Nat),i+n=N->m<18446744073709551616->bg aC 6 (.loop T4) (c1St N Y O1 (ints L) E1 k m i [])=some (.exit 0,c1St N Y O1 (ints L) E1 k (Oe k (L.drop i) i m) N [(11,.bool false)])
 |0,i,m,hi,hm=>by
   obtain rfl:i=N:=by omega
   rw[<-hL,cI,hL];refine bI ?_;unfold c1St hH my Oe T4;generalize ints L=L1 at *;simp[Se,Sd,Sc,Sb,Sa,R9,R8,R7,R6]
 |n+1,i,m,hi,hm=>by
   have bQ:i<L.length:=by omega
   have h64:i<64:=by omega
   have p64:2 ^ i<18446744073709551616:=by
    have:=lP (a:=2) (by decide) h64;rw[show (18446744073709551616:Nat)=2 ^ 64 from rfl]; exact this
   have o64:m ||| 2 ^ i<18446744073709551616:=yJ (n:=64) hm p64
   have ih:=UI N hN Y O1 E1 L hL k n (i+1) (if k<=L[i] then m ||| 2 ^ i else m) (by omega) (by split<;>assumption);rw[bH bQ,Oe];refine (bk ?_).trans ih;have k1:(i:Int)<N:=by omega
   have kn:i<N:=by omega
   have hw:=eO (i:=i) (by omega);have g3:(ints L)[i]?=some (.int .i64 L[i]):=by rw[List.getElem?_eq_getElem (by rw[ah]; exact bQ),bm]
   have g4:∀h,(ints L)[i]'h=.int .i64 L[i]:=fun h=>bm _ _ _;have ll:=ah L;have mb:=A0 i h64;have w1:=u64_or_nat m (2 ^ i) hm p64;obtain⟨b1,b2,b3,b4,b5,b6,b7,b8,b9,ba,bb⟩:=bM L;have n1:∀f n,eF f n (ints L)=ints L:=fun f n=>B9 f L n;clear ih;unfold c1St hH my T4;generalize ints L=L1 at *;generalize L[i]=x at *;generalize (m ||| 2 ^ i:Nat)=M2 at *;generalize (2 ^ i:Nat)=p at *;by_cases q:k<=x<;>simp[Se,Sd,Sc,Sb,Sa,R9,R8,R7,R6,k1,kn,hi,hw,g3,g4,ll,hL,bQ,q,n1,mb,w1,b1,b2,b3,b4,b5,b6,b7,b8,b9,ba,bb,idx,aJ,zi,sQp,iQp]
theorem QL (k:Int):∀(L:List Int) (v m:Nat),v+L.length<=64->m<18446744073709551616->Oe k L v m<18446744073709551616
 |[],_,m,_,hm=>hm
 |n::r,v,m,hv,hm=>by
   rw[Oe];rw[cY] at hv;refine QL k r (v+1) _ (by omega) ?_;split
   ·have h64:v<64:=by omega
    have p64:2 ^ v<18446744073709551616:=by
     have:=lP (a:=2) (by decide) h64;rw[show (18446744073709551616:Nat)=2 ^ 64 from rfl]; exact this
    exact yJ (n:=64) hm p64
   ·exact hm
theorem KY (k:Int):∀(L:List Int) (v m j:Nat),(Oe k L v m).testBit j=(m.testBit j||(decide (v<=j)&&decide (j-v<L.length)&&decide (k<=L.getD (j-v) 0)))
 |[],v,m,j=>by simp[Oe]
 |n::r,v,m,j=>by
   rw[Oe,KY k r]
   have e:(if k<=n then m ||| 2 ^ v else m).testBit j=(m.testBit j||(decide (v=j)&&decide (k<=n))):=by
    split
    ·rename_i h; rw[Nat.testBit_or,Nat.testBit_two_pow]; simp[h]
    ·rename_i h; simp[h]
   rw[e,Bool.or_assoc];congr 1;by_cases h1:v=j
   ·subst h1;have h3:¬(v+1<=v):=by omega
    simp[h3]
   ·by_cases h2:v<=j
    ·obtain⟨t,rfl⟩:∃t,j=v+1+t:=⟨j-(v+1),by omega⟩;rw[show v+1+t-v=t+1 by omega,show v+1+t-(v+1)=t by omega];have h3:¬v=v+1+t:=by omega
     have h4:v<=v+1+t:=by omega
     have h5:v+1<=v+1+t:=by omega
     simp[h3,h4,h5]<;>rfl
    ·have h3:¬v+1<=j:=by omega
     simp[h1,h2,h3]
structure Lm (D:List AV):Prop where
 bo:cW D=[]
 ow:bJ D=false
 mp:∀g,cO g D=D
 pl:eE D=true
 pt:fD D=[]
 np:∀b,jI b D=true
 pp:fI D=true
theorem A5 {D:List AV} (h:Lm D) (p:Rt) (f:Nat->Rt) (j:Nat):Ld p f j D=none:=Lc (by rw[h.bo]; simp)
theorem sB {D:List AV} (h:Lf D) (p:Rt) (f:Nat->Rt) (j:Nat):Ld p f j D=none:=Lc (by rw[h.bo]; simp)
theorem afS {N:Nat} {Es:List Ed} (hG:vW (N:Int) Es) (hE:Es.length<1000000) (o L:List Int) (hL:L.length=N) (E1:List AV) (hE1:Lm E1) (k:Int) :
  ∃ l,(Lq (ft N Es) (Oe k L 0 0) (Oe k L 0 0) l/\l.length<=64)/\bU aC nQo [.int .i64 k,.ptr 4 0,.ptr 0 0] (hH N (fi Es) (ints o) (ints L) E1)=some (.list 1 (kV l),hH N (fi Es) (ints o) (ints L) E1):=by
 have hN:N<=64:=by have:=hG.1.2; omega
 have gl:=QL k L 0 0 (by omega) (by omega)
 obtain⟨l,l1,l2⟩:=QH hG hE gl (fun j hj=>by
  rw[KY] at hj;simp at hj;omega)
 refine⟨l,l1,?_⟩;have lp:=UI N hN (fi Es) (ints o) E1 L hL k N 0 0 (by omega) (by omega);rw[dc] at lp;have x1:=sB (bM o);have x2:=sB (bM L);have x3:=A5 hE1;obtain⟨a1,a2,a3,a4,a5,a6,a7,a8,a9,aa,ab⟩:=bM o;obtain⟨b1,b2,b3,b4,b5,b6,b7,b8,b9,ba,bb⟩:=bM L;obtain⟨c1,c2,c3,c4,c5,c6,c8⟩:=hE1;have ll:=ah L;rw[fK sQo (aF rfl)];unfold c1St hH my at *;simp only[jJ] at lp;generalize Oe k L 0 0=M at *;generalize kV l=G at *;generalize ints o=O1 at *;generalize ints L=L1 at *;generalize fi Es=Y at *;unfold qQo cQo;simp[Se,Sd,Sc,Sb,Sa,R9,R8,R7,R6,x1,x2,x3,lp,l2,ll,hL,a1,a2,a3,a4,a5,a6,a7,a8,a9,aa,ab,b1,b2,b3,b4,b5,b6,b7,b8,b9,ba,bb,c1,c2,c3,c4,c5,c6,c8,aJ,zi,cc,bR,sW,lN,fI,eE,pl,iu,dD,lV,mO,fy,eX,dn,gn,ja,rh,fD,qR,o7,iX,sQq,iQq]
/- hierarchy.gathered: the sets of a level. -/
theorem mU (a:List (List Int × Int)):Lm (zY a):=by
 induction a with
 |nil=>exact⟨rfl,rfl,fun _=>rfl,rfl,rfl,fun _=>rfl,rfl⟩
 |cons p r ih=>
   refine⟨ih.bo,ih.ow,fun g=>?_,?_,ih.pt,fun b=>ih.np b,?_⟩
   ·show AV.dF [.str (kS p.1),.int .i64 p.2]::cO g (zY r)=_;rw[ih.mp]; rfl
   ·show (true&&eE (zY r))=true;rw[ih.pl]; rfl
   ·show (true&&fI (zY r))=true;rw[ih.pp]; rfl
def D0:AV:=.func (.func nQo) [] [.ptr 4 0,.ptr 0 0]
def oQ (a:List (List Int × Int)):List AV:=a.map fun p=>dZ (0,-1,p.1)
theorem wE (a:List (List Int × Int)):(oQ a).length=a.length:=List.length_map _
def ahI (a:List (List Int × Int)) (J:Env):Env:=(1,D0)::(5,nB 5)::(6,.own 3 (oQ a))::J
def H6 (N:Nat) (Y O1 L1:List AV) (a:List (List Int × Int)) (k:Int) (most:Int) (gs:List Nat) (i:Int) (J:Env):St:=
 ⟨(1,D0)::(5,nB 5)::(6,.own 3 (oQ a))::(7,.int .i64 k)::(17,.int .i64 most)::(18,.int .i64 k)::(23,.list 1 (kV gs))::(24,.int .i64 gs.length)::(25,.int .i64 i)::J,hH N Y O1 L1 (zY a)⟩
theorem afB {N:Nat} {Y:List AV} (o L:List Int) (a:List (List Int × Int)) (ha:∀p∈a,Lo p.1) (LD:a.length<=1000) (k most:Int) (gs:List Nat) (i:Nat) (hi:i<gs.length) (r9:gs.length<=1000) (hs:Lo (cz gs[i])) (hf:oY a (cz gs[i]) 0=none) :
  bg aC 5 Gr (H6 N Y (ints o) (ints L) a k most gs i [])=some (.normal,H6 N Y (ints o) (ints L) (iW a (cz gs[i]) k) k most gs (i+1:Nat) []):=by
 have k1:(i:Int)<gs.length:=by omega
 have hw:=eO (i:=i) (by omega);have g3:(kV gs)[i]?=some (.list 1 (ints (cz gs[i]))):=by simp[kV,hi]
 have g4:∀h,(kV gs)[i]'h=.list 1 (ints (cz gs[i])):=fun h=>by simp[kV]
 have gl:=lF gs;have bl:=tJ gs[i];have kr:=KF (cz gs[i]) (by omega) hs;have mf:=xS hs ha 0;rw[hf] at mf;have mp:=TR (cz gs[i]) k a;rw[hf] at mp
 have kq:xW .zM (.str (kS (cz gs[i]))) (.str (kS (cz gs[i])))=some true:=by
  simp only[xW,af]; exact (MapKept.bytes_beq _ _).2 rfl
 have us:=xE a (cz gs[i]) k;rw[hf] at us
 have pA:oQ (iW a (cz gs[i]) k)=oQ a++[dZ (0,-1,cz gs[i])]:=by
  have e:∀b:List (List Int × Int),oQ b=(b.map eH).map fun s=>dZ (0,-1,s):=fun b=>by simp[oQ]
  rw[e,us,e]; simp
 have pl:=wE a;have hL1:a.length+1<=4294967296:=by omega
 have tk1:(oQ a).take a.length=oQ a:=dt (by omega);have tk2:(oQ a++[dZ (0,-1,cz gs[i])]).take (a.length+1)=oQ a++[dZ (0,-1,cz gs[i])]:=dt (by simp[pl]);have x1:=sB (bM o);have x2:=sB (bM L);have x3:=A5 (mU a);have x4:=A5 (mU (iW a (cz gs[i]) k));obtain⟨a1,a2,a3,a4,a5,a6,a7,a8,a9,aa,ab⟩:=bM o;obtain⟨b1,b2,b3,b4,b5,b6,b7,b8,b9,ba,bb⟩:=bM L;obtain⟨c1,c2,c3,c4,c5,c6,c8⟩:=mU a;obtain⟨d1,d2,d3,d4,d5,d6,d8⟩:=mU (iW a (cz gs[i]) k);unfold H6 hH my D0;rw[pA];unfold dZ at *;generalize zY (iW a (cz gs[i]) k)=E2 at *;generalize zY a=E1 at *;generalize oQ a=Pa at *;generalize kS (cz gs[i])=K at *;generalize ints (cz gs[i])=S1 at *;generalize kV gs=G at *;generalize ints o=O1 at *;generalize ints L=L1 at *;unfold Gr;simp[oF,oE,oD,oC,oB,oA,ox,ot,oq,om,jC,jB,jA,jz,jy,jx,jw,jv,ju,jt,js,jr,jq,jo,jm,jl,jj,ji,jh,jg,jf,je,k1,hw,g3,g4,gl,hi,kr,mf,mp,kq,hL1,mN,pl,tk1,tk2,x1,x2,x3,x4,a1,a2,a3,a4,a5,a6,a7,a8,a9,aa,ab,b1,b2,b3,b4,b5,b6,b7,b8,b9,ba,bb,c1,c2,c3,c4,c5,c6,c8,d1,d2,d3,d4,d5,d6,d8,mapOf,nB,Wa,idx,aJ,eE,pl,An,fz,K0,KW,rep,gq,sQC,iQC]
theorem afA {N:Nat} {Y:List AV} (o L:List Int) (a:List (List Int × Int)) (ha:∀p∈a,Lo p.1) (LD:a.length<=1000) (k most:Int) (gs:List Nat) (i:Nat) (hi:i<gs.length) (r9:gs.length<=1000) (hs:Lo (cz gs[i])) {n:Nat} {z:Int} (hf:oY a (cz gs[i]) 0=some (n,.int .i64 z)) :
  bg aC 5 Gr (H6 N Y (ints o) (ints L) a k most gs i [])=some (.normal,H6 N Y (ints o) (ints L) (iW a (cz gs[i]) k) k most gs (i+1:Nat) []):=by
 have k1:(i:Int)<gs.length:=by omega
 have hw:=eO (i:=i) (by omega);have g3:(kV gs)[i]?=some (.list 1 (ints (cz gs[i]))):=by simp[kV,hi]
 have g4:∀h,(kV gs)[i]'h=.list 1 (ints (cz gs[i])):=fun h=>by simp[kV]
 have gl:=lF gs;have bl:=tJ gs[i];have kr:=KF (cz gs[i]) (by omega) hs;have mf:=xS hs ha 0;rw[hf] at mf;have mp:=TR (cz gs[i]) k a;rw[hf] at mp
 have kq:xW .zM (.str (kS (cz gs[i]))) (.str (kS (cz gs[i])))=some true:=by
  simp only[xW,af]; exact (MapKept.bytes_beq _ _).2 rfl
 have us:=xE a (cz gs[i]) k;rw[hf] at us
 have pA:oQ (iW a (cz gs[i]) k)=oQ a:=by
  have e:∀b:List (List Int × Int),oQ b=(b.map eH).map fun s=>dZ (0,-1,s):=fun b=>by simp[oQ]
  rw[e,us,e]; simp
 have pl:=wE a;have x1:=sB (bM o);have x2:=sB (bM L);have x3:=A5 (mU a);have x4:=A5 (mU (iW a (cz gs[i]) k));obtain⟨a1,a2,a3,a4,a5,a6,a7,a8,a9,aa,ab⟩:=bM o;obtain⟨b1,b2,b3,b4,b5,b6,b7,b8,b9,ba,bb⟩:=bM L;obtain⟨c1,c2,c3,c4,c5,c6,c8⟩:=mU a;obtain⟨d1,d2,d3,d4,d5,d6,d8⟩:=mU (iW a (cz gs[i]) k);unfold H6 hH my D0;rw[pA];generalize zY (iW a (cz gs[i]) k)=E2 at *;generalize zY a=E1 at *;generalize oQ a=Pa at *;generalize kS (cz gs[i])=K at *;generalize ints (cz gs[i])=S1 at *;generalize kV gs=G at *;generalize ints o=O1 at *;generalize ints L=L1 at *;unfold Gr;simp[oF,oE,oD,oC,oB,oA,ox,ot,oq,om,jC,jB,jA,jz,jy,jx,jw,jv,ju,jt,js,jr,jq,jo,jm,jl,jj,ji,jh,jg,jf,je,k1,hw,g3,g4,gl,hi,kr,mf,mp,kq,pl,x1,x2,x3,x4,a1,a2,a3,a4,a5,a6,a7,a8,a9,aa,ab,b1,b2,b3,b4,b5,b6,b7,b8,b9,ba,bb,c1,c2,c3,c4,c5,c6,c8,d1,d2,d3,d4,d5,d6,d8,mapOf,nB,Wa,idx,aJ,eE,pl,An,fz,K0,KW,rep,gq,sQC,iQC]
theorem Ol:∀{a:List (List Int × Int)} {s:List Int} {i:Nat} {p:Nat × AV},oY a s i=some p->∃n z,p=(n,.int .i64 z)
 |[],_,_,_,h=>by cases h
 |(t,j)::r,s,i,p,h=>by
   unfold oY at h;split at h
   ·simp only[af] at h; subst h; exact⟨_,_,rfl⟩
   ·exact Ol h
theorem Av:∀{a:List (List Int × Int)} {s:List Int} {k:Int} {p:List Int × Int},p∈iW a s k->p.1=s\/p∈a
 |[],s,k,p,h=>by simp[iW] at h; subst h; exact .inl rfl
 |(t,j)::r,s,k,p,h=>by
   unfold iW at h;split at h
   ·rename_i e;rcases aO.1 h with rfl|h
    ·exact .inl e
    ·exact .inr (dm _ h)
   ·rcases aO.1 h with rfl|h
    ·exact .inr List.mem_cons_self
    ·exact (Av h).imp id fun h=>dm _ h
theorem EC:∀(a:List (List Int × Int)) (s:List Int) (k:Int),(iW a s k).length<=a.length+1
 |[],s,k=>by simp[iW]
 |(t,j)::r,s,k=>by
   have:=EC r s k;unfold iW;split<;>simp only[cY]<;>omega
def rZ (k:Int) (a:List (List Int × Int)) (l:List (List Int)):List (List Int × Int):=l.foldl (fun a s=>iW a s k) a
theorem Un {N:Nat} {Y:List AV} (o L:List Int) (k most:Int) (gs:List Nat) (r9:gs.length<=64) (hs:∀R∈gs,Lo (cz R)):∀(n i:Nat) (a:List (List Int × Int)),(∀p∈a,Lo p.1)->i+n=gs.length->a.length+n<=1000 ->
  bg aC 5 (.loop Gr) (H6 N Y (ints o) (ints L) a k most gs i [])=some (.exit 2,H6 N Y (ints o) (ints L) (rZ k a ((gs.drop i).map cz)) k most gs gs.length [(26,.bool false)])
 |0,i,a,ha,hi,LD=>by
   obtain rfl:i=gs.length:=by omega
   rw[cI];have e:rZ k a (([]:List Nat).map cz)=a:=rfl;rw[e];refine bI ?_;have gl:=lF gs;obtain⟨c1,c2,c3,c4,c5,c6,c8⟩:=mU a;unfold H6 hH my D0;generalize zY a=E1 at *;generalize oQ a=Pa at *;generalize kV gs=G at *;generalize ints o=O1 at *;generalize ints L=L1 at *;unfold Gr;simp[oF,oE,oD,oC,oB,oA,ox,ot,oq,om,jC,jB,jA,jz,jy,jx,jw,jv,ju,jt,js,jr,jq,jo,jm,jl,jj,ji,jh,jg,jf,je,nB]
 |n+1,i,a,ha,hi,LD=>by
   have bQ:i<gs.length:=by omega
   have hsi:=hs gs[i] (List.getElem_mem bQ);have ul:=EC a (cz gs[i]) k;have ih:=Un (Y:=Y) (N:=N) o L k most gs r9 hs n (i+1) (iW a (cz gs[i]) k) (fun p hp=>(Av hp).elim (fun e=>by rw[e]; exact hsi) (ha p)) (by omega) (by omega);rw[bH bQ,List.map_cons];have e:rZ k a (cz gs[i]::(gs.drop (i+1)).map cz)=rZ k (iW a (cz gs[i]) k) ((gs.drop (i+1)).map cz):=rfl;rw[e];cases hf:oY a (cz gs[i]) 0 with
   |none=>exact (bk (afB o L a ha (by omega) k most gs i bQ (by omega) hsi hf)).trans ih
   |some p=>
     obtain⟨m,z,rfl⟩:=Ol hf;exact (bk (afA o L a ha (by omega) k most gs i bQ (by omega) hsi hf)).trans ih
/- hierarchy.gathered: all levels. -/
theorem TY (R:Nat):Lo (cz R):=fun x hx=>by
 obtain⟨j,rfl,h,_⟩:=ff.1 hx;omega
def QN (N:Nat) (Y O1 L1:List AV) (a:List (List Int × Int)) (k:Int) (most:Int) (J:Env):St:=
 ⟨(1,D0)::(5,nB 5)::(6,.own 3 (oQ a))::(17,.int .i64 most)::(18,.int .i64 k)::J,hH N Y O1 L1 (zY a)⟩
theorem ZY {N:Nat} {Es:List Ed} (hG:vW (N:Int) Es) (hE:Es.length<1000000) (o L:List Int) (hL:L.length=N) (a:List (List Int × Int)) (ha:∀p∈a,Lo p.1) (k:Nat) (hk:k<100) (most:Int) (hm:(k:Int)<most) (LD:a.length<=900) :
  ∃ l,(Lq (ft N Es) (Oe k L 0 0) (Oe k L 0 0) l/\l.length<=64)/\bg aC 5 Jj (QN N (fi Es) (ints o) (ints L) a k most [])=some (.normal,QN N (fi Es) (ints o) (ints L) (rZ k a (l.map cz)) (k+1:Nat) most []):=by
 obtain⟨l,l1,l2⟩:=afS hG hE o L hL (zY a) (mU a) k;refine⟨l,l1,?_⟩;have lp:=Un (Y:=fi Es) (N:=N) o L k most l l1.2 (fun R _=>TY R) l.length 0 a ha (by omega) (by have:=l1.2; omega);rw[dc] at lp;have hw:=eO (i:=k) (by omega);have gl:=lF l;have x1:=sB (bM o);have x2:=sB (bM L);have x3:=A5 (mU a);have x4:=A5 (mU (rZ k a (l.map cz)));obtain⟨a1,a2,a3,a4,a5,a6,a7,a8,a9,aa,ab⟩:=bM o;obtain⟨b1,b2,b3,b4,b5,b6,b7,b8,b9,ba,bb⟩:=bM L;obtain⟨c1,c2,c3,c4,c5,c6,c8⟩:=mU a;obtain⟨d1,d2,d3,d4,d5,d6,d8⟩:=mU (rZ k a (l.map cz));unfold H6 QN hH my D0 nB at *;simp only[jJ] at lp;generalize zY (rZ k a (l.map cz))=E2 at *;generalize oQ (rZ k a (l.map cz))=Pb at *;generalize zY a=E1 at *;generalize oQ a=Pa at *;generalize kV l=G at *;generalize ints o=O1 at *;generalize ints L=L1 at *;generalize fi Es=Y at *;unfold Jj;simp[oF,oE,oD,oC,oB,oA,ox,ot,oq,om,jC,jB,jA,jz,jy,jx,jw,jv,ju,jt,js,jr,jq,jo,jm,jl,jj,ji,jh,jg,jf,je,l2,lp,hm,hw,gl,x1,x2,x3,x4,a1,a2,a3,a4,a5,a6,a7,a8,a9,aa,ab,b1,b2,b3,b4,b5,b6,b7,b8,b9,ba,bb,c1,c2,c3,c4,c5,c6,c8,d1,d2,d3,d4,d5,d6,d8,nB,An,aJ,lN,fI,eE,pl,iu,dD,lV,mO,fy,eX,dn,gn,ja,rh,fD,qR,sQo,iQo]
inductive LvR (A:List Nat) (L:List Int):Nat->Nat->List (List Int × Int)->List (List Int × Int)->Prop
 |nil (k:Nat) (a:List (List Int × Int)):LvR A L k 0 a a
 |cons (k n:Nat) (a b:List (List Int × Int)) (l:List Nat) (h1:Lq A (Oe k L 0 0) (Oe k L 0 0) l) (h2:LvR A L (k+1) n (rZ k a (l.map cz)) b):LvR A L k (n+1) a b
theorem TV (k:Int):∀(l:List Nat) (a:List (List Int × Int)),(∀p∈a,Lo p.1)->∀p∈rZ k a (l.map cz),Lo p.1
 |[],a,ha=>ha
 |R::r,a,ha=>TV k r (iW a (cz R) k) fun p hp=>(Av hp).elim (fun e=>by rw[e]; exact TY R) (ha p)
theorem Nd (k:Int):∀(l:List Nat) (a:List (List Int × Int)),(rZ k a (l.map cz)).length<=a.length+l.length
 |[],a=>Nat.le_refl _
 |R::r,a=>by
   have h1:=Nd k r (iW a (cz R) k);have h2:=EC a (cz R) k;rw[cY];have e:rZ k a ((R::r).map cz)=rZ k (iW a (cz R) k) (r.map cz):=rfl;rw[e]; omega
theorem Um {N:Nat} {Es:List Ed} (hG:vW (N:Int) Es) (hE:Es.length<1000000) (o L:List Int) (hL:L.length=N) (M:Nat) (hM:M<=14):∀(n k:Nat) (a:List (List Int × Int)),k+n=M->(∀p∈a,Lo p.1)->a.length<=64*k ->
  ∃ b,(LvR (ft N Es) L k n a b/\(∀p∈b,Lo p.1)/\b.length<=900)/\bg aC 5 (.loop Jj) (QN N (fi Es) (ints o) (ints L) a k M [])=some (.exit 0,QN N (fi Es) (ints o) (ints L) b M M [(19,.bool false)])
 |0,k,a,hk,ha,LD=>by
   obtain rfl:k=M:=by omega
   refine⟨a,⟨.nil _ _,ha,by omega⟩,?_⟩;refine bI ?_;unfold QN hH my D0 nB;generalize zY a=E1 at *;generalize oQ a=Pa at *;generalize ints o=O1 at *;generalize ints L=L1 at *;generalize fi Es=Y at *;unfold Jj;simp[oF,oE,oD,oC,oB,oA,ox,ot,oq,om,jC,jB,jA,jz,jy,jx,jw,jv,ju,jt,js,jr,jq,jo,jm,jl,jj,ji,jh,jg,jf,je]
 |n+1,k,a,hk,ha,LD=>by
   obtain⟨l,⟨l1,l3⟩,l2⟩:=ZY hG hE o L hL a ha k (by omega) (M:Int) (by omega) (by omega);have h1:=Nd k l a;obtain⟨b,⟨b1,b2⟩,b3⟩:=Um hG hE o L hL M hM n (k+1) (rZ k a (l.map cz)) (by omega) (TV k l a ha) (by omega);exact⟨b,⟨.cons k n a b l l1 b1,b2⟩,(bk l2).trans b3⟩
end Go.BmP
