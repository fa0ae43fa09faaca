/- nodeset.merged: its loop and its answer. -/
import Derived.Test.YtmildmgogdmknaaGreatDoorR02d
set_option linter.unusedSimpArgs false
set_option linter.unusedVariables false
set_option maxRecDepth 100000
set_option maxHeartbeats 4000000
open Bool renaming false_eq_true → bz
open List renaming append_assoc → du, append_nil → dW, drop_length → bK, drop_succ_cons → mf, drop_zero → bY, length_append → bV, length_cons → cN, length_nil → gP, length_replicate → cz, take_append_of_le_length → de, take_length → eW, take_succ_cons → me, take_zero → pD
open Nat renaming le_of_ble_eq_true → ah
namespace Go.BmP
open Go.Am Go.Bm
def sq (b:Bool) (l:List Int):AV:=if b then .own 1 (ints l) else .list 1 (ints l)
theorem DZ (l:List Int):sq true l=.own 1 (ints l):=rfl
theorem Ci (l:List Int):sq false l=.list 1 (ints l):=rfl
def AE (f:Nat) (keep:Bool->Bool->Bool):Prop:=(∃q,aq.fn f=some (⟨false,false,true⟩,q))/\∀ p r,bp aq f [.bool p,.bool r] []=some (.bool (keep p r),[])
theorem abh:AE nQc2 (fun _ _=>true):=by
 refine⟨⟨_,sQc2⟩,fun p r=>?_⟩;rw[pM sQc2 (ah rfl)];unfold qQc2 cQc2;simp[ac5,ac4,bk,bf]
def jk:Bool->Int->Env
 |true,_=>[]
 |false,x=>[(10,.int .i64 x),(80,.bool false)]
def yL (f:Nat) (b1 b2:Bool) (A B out:List Int) (J:Env):St:=⟨(0,sq b1 A)::(1,sq b2 B)::(2,.func (.func f) [] [])::(7,.own 1 (ints out))::J,[]⟩
theorem agX (f:Nat) (b1 b2:Bool) (out:List Int):aW aq 0 (.loop jJ) (yL f b1 b2 [] [] out [])=some (.exit 0,⟨[(0,sq b1 []),(1,sq b2 []),(2,.func (.func f) [] []),(7,.own 1 (ints out)),(30,.bool false)],[]⟩):=by
 cases b1<;>cases b2<;>(simp only[yL,DZ,Ci]; exact bq (by unfold jJ; simp[jq,j7,j5,jZ,iA,iz,iy,iw,iv,iu,c8]))
theorem am5 (f:Nat) (b1 b2:Bool) (A B out:List Int) (k:Bool) (x:Int):aW aq 0 jJ (yL f b1 b2 A B out (jk k x))=aW aq 0 jJ (yL f b1 b2 A B out []):=by
 cases k
 case true=>rfl
 unfold jJ
 have e:aW aq 0 (.aN jq false [] [0,1,2,7,30]) (yL f b1 b2 A B out (jk false x))=aW aq 0 (.aN jq false [] [0,1,2,7,30]) (yL f b1 b2 A B out []):=by
  cases A with
  |nil=>cases b1<;>cases b2<;>(simp only[yL,DZ,Ci,jk]; simp[jq,c8,af])
  |cons a r=>
    have h0:(0:Int)<(r.length:Int)+1:=by omega
    cases b1<;>cases b2<;>(simp only[yL,DZ,Ci,jk]; simp[jq,af,h0])
 rw[di,di,e,<-di,<-di]
/- nodeset.merged: rounds of its loop. -/
theorem am7 (f:Nat) (keep:Bool->Bool->Bool) (hk:AE f keep) (x:Int) (r:List Int) (out:List Int) (hL:out.length+1<=4294967296) (b1 b2:Bool):aW aq 0 jJ (yL f b1 b2 (x::r) [] out [])=some (.normal,yL f false b2 r [] (out++rU (keep true false) x []) (jk (keep true false) x)):=by
 obtain⟨⟨q,hf⟩,hc⟩:=hk;have h0:(0:Int)<(r.length:Int)+1:=by omega
 have h1:¬((r.length:Int)+1=0):=by omega
 have h2:(1:Int)<=(r.length:Int)+1:=by omega
 have h3:1+r.length<=r.length+1:=by omega
 have wc:=hc true false
 cases hkv:keep true false<;>rw[hkv] at wc<;>cases b1<;>cases b2 <;>
  (simp only[yL,DZ,Ci,jk,rU,bz,if_true,if_false,dW]
   unfold jJ;simp[jq,j7,j5,jZ,iA,iz,iy,iw,iv,iu,c8,lf,af,h0,h1,h2,h3,hf,wc,idx,jx,hL,cq,er,mf,bY,me,pD])
/- nodeset.merged: rounds of its loop. -/
theorem am6 (f:Nat) (keep:Bool->Bool->Bool) (hk:AE f keep) (y:Int) (s:List Int) (out:List Int) (hL:out.length+1<=4294967296) (b1 b2:Bool):aW aq 0 jJ (yL f b1 b2 [] (y::s) out [])=some (.normal,yL f b1 false [] s (out++rU (keep false true) y []) (jk (keep false true) y)):=by
 obtain⟨⟨q,hf⟩,hc⟩:=hk;have k0:(0:Int)<(s.length:Int)+1:=by omega
 have k1:¬((s.length:Int)+1=0):=by omega
 have k2:(1:Int)<=(s.length:Int)+1:=by omega
 have k3:1+s.length<=s.length+1:=by omega
 have wc:=hc false true
 cases hkv:keep false true<;>rw[hkv] at wc<;>cases b1<;>cases b2 <;>
  (simp only[yL,DZ,Ci,jk,rU,bz,if_true,if_false,dW]
   unfold jJ;simp[jq,j7,j5,jZ,iA,iz,iy,iw,iv,iu,c8,lf,af,k0,k1,k2,k3,hf,wc,idx,jx,hL,cq,er,mf,bY,me,pD])
/- nodeset.merged: rounds of its loop. -/
theorem ali (f:Nat) (keep:Bool->Bool->Bool) (hk:AE f keep) (x y:Int) (r s:List Int) (hxy:x<y) (out:List Int) (hL:out.length+1<=4294967296) (b1 b2:Bool):aW aq 0 jJ (yL f b1 b2 (x::r) (y::s) out [])=some (.normal,yL f false b2 r (y::s) (out++rU (keep true false) x []) (jk (keep true false) x)):=by
 obtain⟨⟨q,hf⟩,hc⟩:=hk;have h0:(0:Int)<(r.length:Int)+1:=by omega
 have h1:¬((r.length:Int)+1=0):=by omega
 have h2:(1:Int)<=(r.length:Int)+1:=by omega
 have h3:1+r.length<=r.length+1:=by omega
 have k0:(0:Int)<(s.length:Int)+1:=by omega
 have k1:¬((s.length:Int)+1=0):=by omega
 have k2:(1:Int)<=(s.length:Int)+1:=by omega
 have k3:1+s.length<=s.length+1:=by omega
 have c1:x<=y:=by omega
 have c2:¬y<=x:=by omega
 have wc:=hc true false
 cases hkv:keep true false<;>rw[hkv] at wc<;>cases b1<;>cases b2 <;>
  (simp only[yL,DZ,Ci,jk,rU,bz,if_true,if_false,dW]
   unfold jJ;simp[jq,j7,j5,jZ,iA,iz,iy,iw,iv,iu,lf,af,h0,h1,h2,h3,k0,k1,c1,c2,hf,wc,idx,jx,hL,cq,er,mf,bY,me,pD])
/- nodeset.merged: rounds of its loop. -/
theorem alj (f:Nat) (keep:Bool->Bool->Bool) (hk:AE f keep) (x y:Int) (r s:List Int) (hxy:y<x) (out:List Int) (hL:out.length+1<=4294967296) (b1 b2:Bool):aW aq 0 jJ (yL f b1 b2 (x::r) (y::s) out [])=some (.normal,yL f b1 false (x::r) s (out++rU (keep false true) y []) (jk (keep false true) y)):=by
 obtain⟨⟨q,hf⟩,hc⟩:=hk;have h0:(0:Int)<(r.length:Int)+1:=by omega
 have h1:¬((r.length:Int)+1=0):=by omega
 have h2:(1:Int)<=(r.length:Int)+1:=by omega
 have h3:1+r.length<=r.length+1:=by omega
 have k0:(0:Int)<(s.length:Int)+1:=by omega
 have k1:¬((s.length:Int)+1=0):=by omega
 have k2:(1:Int)<=(s.length:Int)+1:=by omega
 have k3:1+s.length<=s.length+1:=by omega
 have c1:y<=x:=by omega
 have c2:¬x<=y:=by omega
 have wc:=hc false true
 cases hkv:keep false true<;>rw[hkv] at wc<;>cases b1<;>cases b2 <;>
  (simp only[yL,DZ,Ci,jk,rU,bz,if_true,if_false,dW]
   unfold jJ;simp[jq,j7,j5,jZ,iA,iz,iy,iw,iv,iu,lf,af,h0,h1,k0,k1,k2,k3,c1,c2,hf,wc,idx,jx,hL,cq,er,mf,bY,me,pD])
/- nodeset.merged: rounds of its loop. -/
theorem alk (f:Nat) (keep:Bool->Bool->Bool) (hk:AE f keep) (x:Int) (r s:List Int) (out:List Int) (hL:out.length+1<=4294967296) (b1 b2:Bool):aW aq 0 jJ (yL f b1 b2 (x::r) (x::s) out [])=some (.normal,yL f false false r s (out++rU (keep true true) x []) (jk (keep true true) x)):=by
 obtain⟨⟨q,hf⟩,hc⟩:=hk;have h0:(0:Int)<(r.length:Int)+1:=by omega
 have h1:¬((r.length:Int)+1=0):=by omega
 have h2:(1:Int)<=(r.length:Int)+1:=by omega
 have h3:1+r.length<=r.length+1:=by omega
 have k0:(0:Int)<(s.length:Int)+1:=by omega
 have k1:¬((s.length:Int)+1=0):=by omega
 have k2:(1:Int)<=(s.length:Int)+1:=by omega
 have k3:1+s.length<=s.length+1:=by omega
 have wc:=hc true true
 cases hkv:keep true true<;>rw[hkv] at wc<;>cases b1<;>cases b2 <;>
  (simp only[yL,DZ,Ci,jk,rU,bz,if_true,if_false,dW]
   unfold jJ;simp[jq,j7,j5,jZ,iA,iz,iy,iw,iv,iu,lf,af,h0,h1,h2,h3,k0,k1,k2,k3,hf,wc,idx,jx,hL,cq,er,mf,bY,me,pD])
/- nodeset.merged as a whole; Union, Meet, Minus, Of, Within. -/
theorem jg (l:List Int):gK (ints l)=true:=by
 induction l with
 |nil=>rfl
 |cons x r ih=>simp only[ints,List.map_cons,gK,clean] at ih ⊢; rw[ih]; rfl
theorem zO (c:Bool) (x:Int) (m:List Int):rU c x m=rU c x []++m:=by cases c<;>rfl
theorem aer (f:Nat) (keep:Bool->Bool->Bool) (hk:AE f keep) (A B:List Int):∀(b1 b2:Bool) (out:List Int),out.length+A.length+B.length<=4294967296->∃b1' b2',aW aq 0 (.loop jJ) (yL f b1 b2 A B out [])=some (.exit 0,⟨[(0,sq b1' []),(1,sq b2' []),(2,.func (.func f) [] []),(7,.own 1 (ints (out++yM keep A B))),(30,.bool false)],[]⟩):=by
 have go:∀{k:Bool} {x:Int} {b1 b2:Bool} {A B out:List Int},aW aq 0 (.loop jJ) (yL f b1 b2 A B out (jk k x))=aW aq 0 (.loop jJ) (yL f b1 b2 A B out []):=by
  intro k x b1 b2 A B out;rw[tl,tl,am5]
 have pl:∀(c:Bool) (x:Int) (o:List Int),(o++rU c x []).length<=o.length+1:=by
  intro c x o; cases c<;>simp[rU]
 induction A,B using yM.induct with
 |case1=>intro b1 b2 out h; exact⟨b1,b2,by rw[yM,dW]; exact agX f b1 b2 out⟩
 |case2 x r ih=>
   intro b1 b2 out h;simp only[cN,gP] at h;have:=pl (keep true false) x out;obtain⟨c1,c2,e⟩:=ih false b2 (out++rU (keep true false) x []) (by simp only[gP]; omega);refine⟨c1,c2,?_⟩;rw[aS (am7 f keep hk x r out (by omega) b1 b2),go,e,yM,zO (keep true false) x (yM keep r []),du]
 |case3 y s ih=>
   intro b1 b2 out h;simp only[cN,gP] at h;have:=pl (keep false true) y out;obtain⟨c1,c2,e⟩:=ih b1 false (out++rU (keep false true) y []) (by simp only[gP]; omega);refine⟨c1,c2,?_⟩;rw[aS (am6 f keep hk y s out (by omega) b1 b2),go,e,yM,zO (keep false true) y (yM keep [] s),du]
 |case4 x r y s bD ih=>
   intro b1 b2 out h;simp only[cN] at h;have:=pl (keep true false) x out;obtain⟨c1,c2,e⟩:=ih false b2 (out++rU (keep true false) x []) (by simp only[cN]; omega);refine⟨c1,c2,?_⟩;rw[aS (ali f keep hk x y r s bD out (by omega) b1 b2),go,e,yM,if_pos bD,zO (keep true false) x (yM keep r (y::s)),du]
 |case5 x r y s hn bD ih=>
   intro b1 b2 out h;simp only[cN] at h;have:=pl (keep false true) y out;obtain⟨c1,c2,e⟩:=ih b1 false (out++rU (keep false true) y []) (by simp only[cN]; omega);refine⟨c1,c2,?_⟩;rw[aS (alj f keep hk x y r s bD out (by omega) b1 b2),go,e,yM,if_neg hn,if_pos bD,zO (keep false true) y (yM keep (x::r) s),du]
 |case6 x r y s hn hn2 ih=>
   obtain rfl:x=y:=by omega
   intro b1 b2 out h;simp only[cN] at h;have:=pl (keep true true) x out;obtain⟨c1,c2,e⟩:=ih false false (out++rU (keep true true) x []) (by omega);refine⟨c1,c2,?_⟩;rw[aS (alk f keep hk x r s out (by omega) b1 b2),go,e,yM,if_neg hn,if_neg hn2,zO (keep true true) x (yM keep r s),du]
theorem lq:bp aq F6 [.list 1 []] []=some (.list 1 [],[]):=ab1 (by simp[QP,oQd2,gClo])
theorem xn (x:Int) (r:List Int) (hl:r.length+1<=4294967296):bp aq F6 [.list 1 (ints (x::r))] []=some (.own 1 (ints (x::r)),[]):=by
 rw[ab2 (by simp[QP,oQd2,gClo,lf]) Mx (ah rfl)];unfold qQd2 cQd2;simp[acX,acW,acV,acU,lf,af,hl,jx,bk,bf,Ax,Q9,Sy,Sx,cq,eW,AV.cells,AV.leaf]
theorem sM (l:List Int) (h:l.length<=4294967296):Wk 1 (ints l) []=some (ints (iP l),none):=by
 have e:j8 (ints l)=some l:=nt l;unfold Wk;simp only[af,jx,h,if_true,e];rfl
theorem vV (l:List Int) (h:l.length<=4294967296):Xz 1 (ints l) []=some (ints (dd l++List.replicate (l.length-(dd l).length) 0),some (dd l).length):=by
 have e:j8 (ints l)=some l:=nt l;unfold Xz;simp only[af,jx,h,if_true,e];rfl
theorem nG:Wk 1 [] []=some ([],none):=sM [] (by simp)
theorem nU:Xz 1 [] []=some ([],some 0):=vV [] (by simp)
def yH:C:=.seq (.aN jG false [] [0,1,2]) (.seq (.aN jF false [] [0,1,2]) (.seq (.aN jE false [] [0,1,2]) (.seq (.aN jD false [] [0,1,2]) (.seq (.aN jC false [] [0,1,2]) (.aN jB false [] [0,1,2,7])))))
theorem aeq (f:Nat):aW aq 0 yH ⟨[(0,.list 1 (ints [])),(1,.list 1 (ints [])),(2,.func (.func f) [] [])],[]⟩=some (.normal,yL f false false [] [] [] []):=by
 unfold yH;simp only[yL,Ci,c8];simp[jG,jF,jE,jD,jC,jB,lq,nG,nU,Mx,RB,RA,Rz]
theorem aep (f:Nat) (y:Int) (s:List Int) (hl:s.length+1<=4294967296):aW aq 0 yH ⟨[(0,.list 1 (ints [])),(1,.list 1 (ints (y::s))),(2,.func (.func f) [] [])],[]⟩=some (.normal,yL f false true [] (cV (y::s)) [] []):=by
 have hc:=xn y s hl;have Pd:(y::s).length<=4294967296:=by simpa using hl
 have h1:=sM (y::s) Pd;have e2:(iP (y::s)).length=(y::s).length:=k9 _;have h2:=vV (iP (y::s)) (by omega);have e3:dd (iP (y::s))=cV (y::s):=rfl;have e4:=iI (y::s);rw[e2,e3] at h2;generalize y::s=b at *;by_cases hm:b.length<=(cV b).length
 ·have hm2:b.length-(cV b).length=0:=by omega
  have hm3:(cV b).length=b.length:=by omega
  unfold yH;simp only[yL,Ci,DZ,c8];simp[jG,jF,jE,jD,jC,jB,lq,nG,nU,hc,h1,h2,e2,hm3,Mx,RB,RA,Rz,af,cq,eW,bV,bK,gg,jg]
 ·unfold yH;have e5:(cV b).length+(b.length-(cV b).length)=b.length:=by omega
  simp only[yL,Ci,DZ,c8];simp[jG,jF,jE,jD,jC,jB,lq,nG,nU,hc,h1,h2,e2,e4,e5,hm,Mx,RB,RA,Rz,af,cq,eW,bV,cz,bK,gg,jg,de]
theorem aeo (f:Nat) (y:Int) (s:List Int) (hl:s.length+1<=4294967296):aW aq 0 yH ⟨[(0,.list 1 (ints (y::s))),(1,.list 1 (ints [])),(2,.func (.func f) [] [])],[]⟩=some (.normal,yL f true false (cV (y::s)) [] [] []):=by
 have hc:=xn y s hl;have Pd:(y::s).length<=4294967296:=by simpa using hl
 have h1:=sM (y::s) Pd;have e2:(iP (y::s)).length=(y::s).length:=k9 _;have h2:=vV (iP (y::s)) (by omega);have e3:dd (iP (y::s))=cV (y::s):=rfl;have e4:=iI (y::s);rw[e2,e3] at h2;generalize y::s=b at *;by_cases hm:b.length<=(cV b).length
 ·have hm2:b.length-(cV b).length=0:=by omega
  have hm3:(cV b).length=b.length:=by omega
  unfold yH;simp only[yL,Ci,DZ,c8];simp[jG,jF,jE,jD,jC,jB,lq,nG,nU,hc,h1,h2,e2,hm3,Mx,RB,RA,Rz,af,cq,eW,bV,bK,gg,jg]
 ·unfold yH;have e5:(cV b).length+(b.length-(cV b).length)=b.length:=by omega
  simp only[yL,Ci,DZ,c8];simp[jG,jF,jE,jD,jC,jB,lq,nG,nU,hc,h1,h2,e2,e4,e5,hm,Mx,RB,RA,Rz,af,cq,eW,bV,cz,bK,gg,jg,de]
theorem aen (f:Nat) (x y:Int) (r s:List Int) (hl:r.length+1<=4294967296) (kl:s.length+1<=4294967296):aW aq 0 yH ⟨[(0,.list 1 (ints (x::r))),(1,.list 1 (ints (y::s))),(2,.func (.func f) [] [])],[]⟩=some (.normal,yL f true true (cV (x::r)) (cV (y::s)) [] []):=by
 have HO:=xn x r hl;have hla':(x::r).length<=4294967296:=by simpa using hl
 have h1a:=sM (x::r) hla';have e2a:(iP (x::r)).length=(x::r).length:=k9 _;have h2a:=vV (iP (x::r)) (by omega);have e3a:dd (iP (x::r))=cV (x::r):=rfl;have e4a:=iI (x::r);rw[e2a,e3a] at h2a;have hcb:=xn y s kl;have hlb':(y::s).length<=4294967296:=by simpa using kl
 have h1b:=sM (y::s) hlb';have e2b:(iP (y::s)).length=(y::s).length:=k9 _;have h2b:=vV (iP (y::s)) (by omega);have e3b:dd (iP (y::s))=cV (y::s):=rfl;have e4b:=iI (y::s);rw[e2b,e3b] at h2b;generalize x::r=a at *;generalize y::s=b at *;unfold yH;simp only[yL,DZ,c8];by_cases hma:a.length<=(cV a).length
 ·have hma2:a.length-(cV a).length=0:=by omega
  have hma3:(cV a).length=a.length:=by omega
  by_cases hmb:b.length<=(cV b).length
  ·have hmb2:b.length-(cV b).length=0:=by omega
   have hmb3:(cV b).length=b.length:=by omega
   simp[jG,jF,jE,jD,jC,jB,HO,h1a,h2a,e2a,hma3,hcb,h1b,h2b,e2b,hmb3,Mx,RB,RA,Rz,af,cq,eW,bV,bK,gg,jg]
  ·have e5b:(cV b).length+(b.length-(cV b).length)=b.length:=by omega
   simp[jG,jF,jE,jD,jC,jB,HO,h1a,h2a,e2a,hma3,hcb,h1b,h2b,e2b,e4b,hmb,e5b,Mx,RB,RA,Rz,af,cq,eW,bV,cz,bK,gg,jg,de]
 ·have e5a:(cV a).length+(a.length-(cV a).length)=a.length:=by omega
  by_cases hmb:b.length<=(cV b).length
  ·have hmb2:b.length-(cV b).length=0:=by omega
   have hmb3:(cV b).length=b.length:=by omega
   simp[jG,jF,jE,jD,jC,jB,HO,h1a,h2a,e2a,e4a,hma,e5a,hcb,h1b,h2b,e2b,hmb3,Mx,RB,RA,Rz,af,cq,eW,bV,cz,bK,gg,jg,de]
  ·have e5b:(cV b).length+(b.length-(cV b).length)=b.length:=by omega
   simp[jG,jF,jE,jD,jC,jB,HO,h1a,h2a,e2a,e4a,hma,e5a,hcb,h1b,h2b,e2b,e4b,hmb,e5b,Mx,RB,RA,Rz,af,cq,eW,bV,cz,bK,gg,jg,de]
theorem agW (f:Nat) (a b:List Int) (ha:a.length<=4294967296) (hb:b.length<=4294967296):∃b1 b2,aW aq 0 yH ⟨[(0,.list 1 (ints a)),(1,.list 1 (ints b)),(2,.func (.func f) [] [])],[]⟩=some (.normal,yL f b1 b2 (cV a) (cV b) [] []):=by
 cases a with
 |nil=>cases b with
   |nil=>exact⟨_,_,aeq f⟩
   |cons y s=>exact⟨_,_,aep f y s (by simpa using hb)⟩
 |cons x r=>cases b with
   |nil=>exact⟨_,_,aeo f x r (by simpa using ha)⟩
   |cons y s=>exact⟨_,_,aen f x y r s (by simpa using ha) (by simpa using hb)⟩
theorem seq_assoc {c:fe} {b:Nat} {x y z:C} {s:St}:aW c b (.seq (.seq x y) z) s=aW c b (.seq x (.seq y z)) s:=by
 rw[di,di,di];cases e:aW c b x s with
 |none=>rfl
 |some w=>
   obtain⟨ex,s'⟩:=w;cases ex with
   |normal=>rw[fO,fO,di]
   |exit i=>rfl
   |ret=>rfl
theorem u4 {c:fe} {b:Nat} {x y z:C} (h:∀s,aW c b y s=aW c b z s) (s:St):aW c b (.seq x y) s=aW c b (.seq x z) s:=by
 rw[di,di];cases e:aW c b x s with
 |none=>rfl
 |some w=>
   obtain⟨ex,s'⟩:=w;cases ex with
   |normal=>rw[fO,fO,h]
   |exit i=>rfl
   |ret=>rfl
theorem WZ (f:Nat) (keep:Bool->Bool->Bool) (hk:AE f keep) (a b:List Int) (hl:a.length+b.length<=4294967296):bp aq MJ [.list 1 (ints a),.list 1 (ints b),.func (.func f) [] []] []=some (.list 1 (ints (yM keep (cV a) (cV b))),[]):=by
 rw[pM sQc1 (ah rfl)];obtain⟨b1,b2,h⟩:=agW f a b (by omega) (by omega);have la:=iI a;have lb:=iI b;obtain⟨c1,c2,h'⟩:=aer f keep hk (cV a) (cV b) b1 b2 [] (by simp only[gP]; omega)
 have e:aW aq ([]:Heap).length qQc1.body ⟨eC 0 [.list 1 (ints a),.list 1 (ints b),.func (.func f) [] []],[]⟩=aW aq 0 (.seq yH (.seq (.aO 0 (.loop jJ)) (.seq (.aN gX false [] [6]) .ret))) ⟨[(0,.list 1 (ints a)),(1,.list 1 (ints b)),(2,.func (.func f) [] [])],[]⟩:=by
  exact (u4 (fun s=>(u4 (fun s=>(u4 (fun s=>(u4 (fun s=>(u4 (fun s=>rfl) s).trans seq_assoc.symm) s).trans seq_assoc.symm) s).trans seq_assoc.symm) s).trans seq_assoc.symm) _).trans seq_assoc.symm
 rw[e,di,h,fO,di,vW,h',L5,if_pos rfl,fO,List.nil_append];cases c1<;>cases c2<;>(simp only[DZ,Ci]; simp[gX,qQc1,c8,af,cq,bk,bf])
theorem aee (a b:List Int) (hl:a.length+b.length<=4294967296):bp aq MT [.list 1 (ints a),.list 1 (ints b)] []=some (.list 1 (ints (uni a b)),[]):=by
 rw[pM sQa1 (ah rfl)];have h:=WZ nQc2 (fun _ _=>true) abh a b hl;have e:yM (fun _ _=>true) (cV a) (cV b)=uni a b:=rfl;rw[e] at h;unfold qQa1 cQa1;simp[ade,adb,h,sQc1,iQc1,bk,bf]
theorem QX (a:List Int) (hl:a.length<=4294967296):bp aq nQF [.list 1 (ints a)] []=some (.list 1 (ints (cV a)),[]):=by
 rw[pM sQF (ah rfl)];have h:=aee a [] (by simpa using hl);have e:uni a []=cV a:=sI (Sv _ _).1 (eY _).1 fun x=>by rw[(Sv _ _).2,(eY _).2]; simp
 rw[e,c8] at h;unfold qQF cQF;simp[aiH,aiG,h,sQa1,iQa1,bk,bf]
end Go.BmP
