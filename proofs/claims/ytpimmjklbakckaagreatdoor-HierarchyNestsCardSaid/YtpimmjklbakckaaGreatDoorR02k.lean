/- nodeset.merged: its loop and its answer. -/
import Derived.Test.YtpimmjklbakckaaGreatDoorR02d
set_option linter.unusedSimpArgs false
set_option linter.unusedVariables false
set_option maxRecDepth 100000
set_option maxHeartbeats 4000000
open Bool renaming false_eq_true → bp
open List renaming append_assoc → du, append_nil → ir, drop_length → cI, drop_succ_cons → kH, drop_zero → dc, length_append → bC, length_cons → cY, length_nil → fF, length_replicate → cu, take_append_of_le_length → de, take_length → eK, take_succ_cons → kG, take_zero → nX
open Nat renaming le_of_ble_eq_true → aF, le_refl → aI
namespace Go.BmP
open Go.Am Go.Bm
def sq (b:Bool) (l:List Int):AV:=if b then .own 1 (ints l) else .list 1 (ints l)
theorem Aw (l:List Int):sq true l=.own 1 (ints l):=rfl
theorem zh (l:List Int):sq false l=.list 1 (ints l):=rfl
def xx (f:Nat) (keep:Bool->Bool->Bool):Prop:=(∃q,aC.fn f=some (⟨false,false,true⟩,q))/\∀ p r,bU aC f [.bool p,.bool r] []=some (.bool (keep p r),[])
theorem V9:xx nQ5 (fun _ r=>!r):=by
 refine⟨⟨_,sQ5⟩,fun p r=>?_⟩;rw[fK sQ5 (aF rfl)];unfold qQ5 cQ5;simp[adt,ads,cc,bR]
def jk:Bool->Int->Env
 |true,_=>[]
 |false,x=>[(10,.int .i64 x),(80,.bool false)]
def vL (f:Nat) (b1 b2:Bool) (A B out:List Int) (J:Env):St:=⟨(0,sq b1 A)::(1,sq b2 B)::(2,.func (.func f) [] [])::(7,.own 1 (ints out))::J,[]⟩
theorem abu (f:Nat) (b1 b2:Bool) (out:List Int):bg aC 0 (.loop lC) (vL f b1 b2 [] [] out [])=some (.exit 0,⟨[(0,sq b1 []),(1,sq b2 []),(2,.func (.func f) [] []),(7,.own 1 (ints out)),(30,.bool false)],[]⟩):=by
 cases b1<;>cases b2<;>(simp only[vL,Aw,zh]; exact bI (by unfold lC; simp[lr,lk,lg,k9,k8,k7,km,mq,mo,mn,iG,iF,iE,iD,iC,iB,ig,dw]))
theorem ag8 (f:Nat) (b1 b2:Bool) (A B out:List Int) (k:Bool) (x:Int):bg aC 0 lC (vL f b1 b2 A B out (jk k x))=bg aC 0 lC (vL f b1 b2 A B out []):=by
 cases k
 case true=>rfl
 unfold lC
 have e:bg aC 0 (.rX km false [] [0,1,2,7,30]) (vL f b1 b2 A B out (jk false x))=bg aC 0 (.rX km false [] [0,1,2,7,30]) (vL f b1 b2 A B out []):=by
  cases A with
  |nil=>cases b1<;>cases b2<;>(simp only[vL,Aw,zh,jk]; simp[lr,lk,lg,k9,k8,k7,km,mq,mo,mn,iG,iF,iE,iD,iC,iB,ig,dw,ah])
  |cons a r=>
    have h0:(0:Int)<(r.length:Int)+1:=by omega
    cases b1<;>cases b2<;>(simp only[vL,Aw,zh,jk]; simp[lr,lk,lg,k9,k8,k7,km,mq,mo,mn,iG,iF,iE,iD,iC,iB,ig,dw,ah,h0])
 rw[eU,eU,e,<-eU,<-eU]
/- nodeset.merged: rounds of its loop. -/
theorem aha (f:Nat) (keep:Bool->Bool->Bool) (hk:xx f keep) (x:Int) (r:List Int) (out:List Int) (hL:out.length+1<=4294967296) (b1 b2:Bool):bg aC 0 lC (vL f b1 b2 (x::r) [] out [])=some (.normal,vL f false b2 r [] (out++qO (keep true false) x []) (jk (keep true false) x)):=by
 obtain⟨⟨q,hf⟩,hc⟩:=hk;have h0:(0:Int)<(r.length:Int)+1:=by omega
 have h1:¬((r.length:Int)+1=0):=by omega
 have h2:(1:Int)<=(r.length:Int)+1:=by omega
 have h3:1+r.length<=r.length+1:=by omega
 have tP:=hc true false
 cases Xb:keep true false<;>rw[Xb] at tP<;>cases b1<;>cases b2 <;>
  (simp only[vL,Aw,zh,jk,qO,bp,if_true,if_false,ir]
   unfold lC;simp[lr,lk,lg,k9,k8,k7,km,mq,mo,mn,iG,iF,iE,iD,iC,iB,ig,dw,iU,ah,h0,h1,h2,h3,hf,tP,idx,mN,hL,cH,fx,eG,kH,dc,kG,nX])
/- nodeset.merged: rounds of its loop. -/
theorem ag9 (f:Nat) (keep:Bool->Bool->Bool) (hk:xx f keep) (y:Int) (s:List Int) (out:List Int) (hL:out.length+1<=4294967296) (b1 b2:Bool):bg aC 0 lC (vL f b1 b2 [] (y::s) out [])=some (.normal,vL f b1 false [] s (out++qO (keep false true) y []) (jk (keep false true) y)):=by
 obtain⟨⟨q,hf⟩,hc⟩:=hk;have k0:(0:Int)<(s.length:Int)+1:=by omega
 have k1:¬((s.length:Int)+1=0):=by omega
 have k2:(1:Int)<=(s.length:Int)+1:=by omega
 have k3:1+s.length<=s.length+1:=by omega
 have tP:=hc false true
 cases Xb:keep false true<;>rw[Xb] at tP<;>cases b1<;>cases b2 <;>
  (simp only[vL,Aw,zh,jk,qO,bp,if_true,if_false,ir]
   unfold lC;simp[lr,lk,lg,k9,k8,k7,km,mq,mo,mn,iG,iF,iE,iD,iC,iB,ig,dw,iU,ah,k0,k1,k2,k3,hf,tP,idx,mN,hL,cH,fx,eG,kH,dc,kG,nX])
/- nodeset.merged: rounds of its loop. -/
theorem afh (f:Nat) (keep:Bool->Bool->Bool) (hk:xx f keep) (x y:Int) (r s:List Int) (hxy:x<y) (out:List Int) (hL:out.length+1<=4294967296) (b1 b2:Bool):bg aC 0 lC (vL f b1 b2 (x::r) (y::s) out [])=some (.normal,vL f false b2 r (y::s) (out++qO (keep true false) x []) (jk (keep true false) x)):=by
 obtain⟨⟨q,hf⟩,hc⟩:=hk;have h0:(0:Int)<(r.length:Int)+1:=by omega
 have h1:¬((r.length:Int)+1=0):=by omega
 have h2:(1:Int)<=(r.length:Int)+1:=by omega
 have h3:1+r.length<=r.length+1:=by omega
 have k0:(0:Int)<(s.length:Int)+1:=by omega
 have k1:¬((s.length:Int)+1=0):=by omega
 have k2:(1:Int)<=(s.length:Int)+1:=by omega
 have k3:1+s.length<=s.length+1:=by omega
 have c1:x<=y:=by omega
 have c2:¬y<=x:=by omega
 have tP:=hc true false
 cases Xb:keep true false<;>rw[Xb] at tP<;>cases b1<;>cases b2 <;>
  (simp only[vL,Aw,zh,jk,qO,bp,if_true,if_false,ir]
   unfold lC;simp[lr,lk,lg,k9,k8,k7,km,mq,mo,mn,iG,iF,iE,iD,iC,iB,ig,dw,iU,ah,h0,h1,h2,h3,k0,k1,k2,k3,c1,c2,hf,tP,idx,mN,hL,cH,fx,eG,kH,dc,kG,nX])
/- nodeset.merged: rounds of its loop. -/
theorem afi (f:Nat) (keep:Bool->Bool->Bool) (hk:xx f keep) (x y:Int) (r s:List Int) (hxy:y<x) (out:List Int) (hL:out.length+1<=4294967296) (b1 b2:Bool):bg aC 0 lC (vL f b1 b2 (x::r) (y::s) out [])=some (.normal,vL f b1 false (x::r) s (out++qO (keep false true) y []) (jk (keep false true) y)):=by
 obtain⟨⟨q,hf⟩,hc⟩:=hk;have h0:(0:Int)<(r.length:Int)+1:=by omega
 have h1:¬((r.length:Int)+1=0):=by omega
 have h2:(1:Int)<=(r.length:Int)+1:=by omega
 have h3:1+r.length<=r.length+1:=by omega
 have k0:(0:Int)<(s.length:Int)+1:=by omega
 have k1:¬((s.length:Int)+1=0):=by omega
 have k2:(1:Int)<=(s.length:Int)+1:=by omega
 have k3:1+s.length<=s.length+1:=by omega
 have c1:y<=x:=by omega
 have c2:¬x<=y:=by omega
 have tP:=hc false true
 cases Xb:keep false true<;>rw[Xb] at tP<;>cases b1<;>cases b2 <;>
  (simp only[vL,Aw,zh,jk,qO,bp,if_true,if_false,ir]
   unfold lC;simp[lr,lk,lg,k9,k8,k7,km,mq,mo,mn,iG,iF,iE,iD,iC,iB,ig,dw,iU,ah,h0,h1,h2,h3,k0,k1,k2,k3,c1,c2,hf,tP,idx,mN,hL,cH,fx,eG,kH,dc,kG,nX])
/- nodeset.merged: rounds of its loop. -/
theorem afj (f:Nat) (keep:Bool->Bool->Bool) (hk:xx f keep) (x:Int) (r s:List Int) (out:List Int) (hL:out.length+1<=4294967296) (b1 b2:Bool):bg aC 0 lC (vL f b1 b2 (x::r) (x::s) out [])=some (.normal,vL f false false r s (out++qO (keep true true) x []) (jk (keep true true) x)):=by
 obtain⟨⟨q,hf⟩,hc⟩:=hk;have h0:(0:Int)<(r.length:Int)+1:=by omega
 have h1:¬((r.length:Int)+1=0):=by omega
 have h2:(1:Int)<=(r.length:Int)+1:=by omega
 have h3:1+r.length<=r.length+1:=by omega
 have k0:(0:Int)<(s.length:Int)+1:=by omega
 have k1:¬((s.length:Int)+1=0):=by omega
 have k2:(1:Int)<=(s.length:Int)+1:=by omega
 have k3:1+s.length<=s.length+1:=by omega
 have tP:=hc true true
 cases Xb:keep true true<;>rw[Xb] at tP<;>cases b1<;>cases b2 <;>
  (simp only[vL,Aw,zh,jk,qO,bp,if_true,if_false,ir]
   unfold lC;simp[lr,lk,lg,k9,k8,k7,km,mq,mo,mn,iG,iF,iE,iD,iC,iB,ig,dw,iU,ah,h0,h1,h2,h3,k0,k1,k2,k3,hf,tP,idx,mN,hL,cH,fx,eG,kH,dc,kG,nX])
/- nodeset.merged as a whole; Union, Meet, Minus, Of, Within. -/
theorem gR (l:List Int):gC (ints l)=true:=by
 induction l with
 |nil=>rfl
 |cons x r ih=>simp only[ints,List.map_cons,gC,clean] at ih ⊢; rw[ih]; rfl
theorem wC (c:Bool) (x:Int) (m:List Int):qO c x m=qO c x []++m:=by cases c<;>rfl
theorem YX (f:Nat) (keep:Bool->Bool->Bool) (hk:xx f keep) (A B:List Int):∀(b1 b2:Bool) (out:List Int),out.length+A.length+B.length<=4294967296->∃b1' b2',bg aC 0 (.loop lC) (vL f b1 b2 A B out [])=some (.exit 0,⟨[(0,sq b1' []),(1,sq b2' []),(2,.func (.func f) [] []),(7,.own 1 (ints (out++vM keep A B))),(30,.bool false)],[]⟩):=by
 have go:∀{k:Bool} {x:Int} {b1 b2:Bool} {A B out:List Int},bg aC 0 (.loop lC) (vL f b1 b2 A B out (jk k x))=bg aC 0 (.loop lC) (vL f b1 b2 A B out []):=by
  intro k x b1 b2 A B out;rw[rI,rI,ag8]
 have pl:∀(c:Bool) (x:Int) (o:List Int),(o++qO c x []).length<=o.length+1:=by
  intro c x o; cases c<;>simp[qO]
 induction A,B using vM.induct with
 |case1=>intro b1 b2 out h; exact⟨b1,b2,by rw[vM,ir]; exact abu f b1 b2 out⟩
 |case2 x r ih=>
   intro b1 b2 out h;simp only[cY,fF] at h;have:=pl (keep true false) x out;obtain⟨c1,c2,e⟩:=ih false b2 (out++qO (keep true false) x []) (by simp only[fF]; omega);refine⟨c1,c2,?_⟩;rw[bk (aha f keep hk x r out (by omega) b1 b2),go,e,vM,wC (keep true false) x (vM keep r []),du]
 |case3 y s ih=>
   intro b1 b2 out h;simp only[cY,fF] at h;have:=pl (keep false true) y out;obtain⟨c1,c2,e⟩:=ih b1 false (out++qO (keep false true) y []) (by simp only[fF]; omega);refine⟨c1,c2,?_⟩;rw[bk (ag9 f keep hk y s out (by omega) b1 b2),go,e,vM,wC (keep false true) y (vM keep [] s),du]
 |case4 x r y s bQ ih=>
   intro b1 b2 out h;simp only[cY] at h;have:=pl (keep true false) x out;obtain⟨c1,c2,e⟩:=ih false b2 (out++qO (keep true false) x []) (by simp only[cY]; omega);refine⟨c1,c2,?_⟩;rw[bk (afh f keep hk x y r s bQ out (by omega) b1 b2),go,e,vM,if_pos bQ,wC (keep true false) x (vM keep r (y::s)),du]
 |case5 x r y s hn bQ ih=>
   intro b1 b2 out h;simp only[cY] at h;have:=pl (keep false true) y out;obtain⟨c1,c2,e⟩:=ih b1 false (out++qO (keep false true) y []) (by simp only[cY]; omega);refine⟨c1,c2,?_⟩;rw[bk (afi f keep hk x y r s bQ out (by omega) b1 b2),go,e,vM,if_neg hn,if_pos bQ,wC (keep false true) y (vM keep (x::r) s),du]
 |case6 x r y s hn hn2 ih=>
   obtain rfl:x=y:=by omega
   intro b1 b2 out h;simp only[cY] at h;have:=pl (keep true true) x out;obtain⟨c1,c2,e⟩:=ih false false (out++qO (keep true true) x []) (by omega);refine⟨c1,c2,?_⟩;rw[bk (afj f keep hk x r s out (by omega) b1 b2),go,e,vM,if_neg hn,if_neg hn2,wC (keep true true) x (vM keep r s),du]
theorem jW:bU aC nQ7 [.list 1 []] []=some (.list 1 [],[]):=JR (by simp[HP,oQ7,Ww])
theorem um (x:Int) (r:List Int) (hl:r.length+1<=4294967296):bU aC nQ7 [.list 1 (ints (x::r))] []=some (.own 1 (ints (x::r)),[]):=by
 rw[WT (by simp[HP,oQ7,Ww,iU]) sQ7 (aF rfl)];unfold qQ7 cQ7;simp[adr,adq,adp,ado,iU,ah,hl,mN,cc,bR,Hn,Y6,Xq,Xp,cH,List.take_take,Nat.min_self,eK,AV.cells,AV.leaf]
theorem q9 (l:List Int) (h:l.length<=4294967296):PJ 1 (ints l) []=some (ints (il l),none):=by
 have e:j8 (ints l)=some l:=sF l;unfold PJ;simp only[ah,mN,h,if_true,e];rfl
theorem tG (l:List Int) (h:l.length<=4294967296):Q0 1 (ints l) []=some (ints (dd l++List.replicate (l.length-(dd l).length) 0),some (dd l).length):=by
 have e:j8 (ints l)=some l:=sF l;unfold Q0;simp only[ah,mN,h,if_true,e];rfl
theorem lX:PJ 1 [] []=some ([],none):=q9 [] (by simp)
theorem mH:Q0 1 [] []=some ([],some 0):=tG [] (by simp)
def vC:C:=.seq (.rX lr false [] [0,1,2]) (.seq (.rX lk false [] [0,1,2]) (.seq (.rX lg false [] [0,1,2]) (.seq (.rX k9 false [] [0,1,2]) (.seq (.rX k8 false [] [0,1,2]) (.rX k7 false [] [0,1,2,7])))))
theorem YW (f:Nat):bg aC 0 vC ⟨[(0,.list 1 (ints [])),(1,.list 1 (ints [])),(2,.func (.func f) [] [])],[]⟩=some (.normal,vL f false false [] [] [] []):=by
 unfold vC;simp only[vL,zh,dw];simp[lr,lk,lg,k9,k8,k7,km,mq,mo,mn,iG,iF,iE,iD,iC,iB,ig,jW,lX,mH,sQ7,iQ7,iQ8,iQ9]
theorem YV (f:Nat) (y:Int) (s:List Int) (hl:s.length+1<=4294967296):bg aC 0 vC ⟨[(0,.list 1 (ints [])),(1,.list 1 (ints (y::s))),(2,.func (.func f) [] [])],[]⟩=some (.normal,vL f false true [] (dj (y::s)) [] []):=by
 have hc:=um y s hl;have Wm:(y::s).length<=4294967296:=by simpa using hl
 have h1:=q9 (y::s) Wm;have e2:(il (y::s)).length=(y::s).length:=jT _;have h2:=tG (il (y::s)) (by omega);have e3:dd (il (y::s))=dj (y::s):=rfl;have e4:=kX (y::s);rw[e2,e3] at h2;generalize y::s=b at *;by_cases hm:b.length<=(dj b).length
 ·have hm2:b.length-(dj b).length=0:=by omega
  have hm3:(dj b).length=b.length:=by omega
  unfold vC;simp only[vL,zh,Aw,dw];simp[lr,lk,lg,k9,k8,k7,km,mq,mo,mn,iG,iF,iE,iD,iC,iB,ig,jW,lX,mH,hc,h1,h2,e2,e4,hm,hm2,hm3,sQ7,iQ7,iQ8,iQ9,ah,cH,eK,bC,cu,cI,fx,gR,de,aI]
 ·unfold vC;have e5:(dj b).length+(b.length-(dj b).length)=b.length:=by omega
  simp only[vL,zh,Aw,dw];simp[lr,lk,lg,k9,k8,k7,km,mq,mo,mn,iG,iF,iE,iD,iC,iB,ig,jW,lX,mH,hc,h1,h2,e2,e4,e5,hm,sQ7,iQ7,iQ8,iQ9,ah,cH,eK,bC,cu,cI,fx,gR,de,aI]
theorem YU (f:Nat) (y:Int) (s:List Int) (hl:s.length+1<=4294967296):bg aC 0 vC ⟨[(0,.list 1 (ints (y::s))),(1,.list 1 (ints [])),(2,.func (.func f) [] [])],[]⟩=some (.normal,vL f true false (dj (y::s)) [] [] []):=by
 have hc:=um y s hl;have Wm:(y::s).length<=4294967296:=by simpa using hl
 have h1:=q9 (y::s) Wm;have e2:(il (y::s)).length=(y::s).length:=jT _;have h2:=tG (il (y::s)) (by omega);have e3:dd (il (y::s))=dj (y::s):=rfl;have e4:=kX (y::s);rw[e2,e3] at h2;generalize y::s=b at *;by_cases hm:b.length<=(dj b).length
 ·have hm2:b.length-(dj b).length=0:=by omega
  have hm3:(dj b).length=b.length:=by omega
  unfold vC;simp only[vL,zh,Aw,dw];simp[lr,lk,lg,k9,k8,k7,km,mq,mo,mn,iG,iF,iE,iD,iC,iB,ig,jW,lX,mH,hc,h1,h2,e2,e4,hm,hm2,hm3,sQ7,iQ7,iQ8,iQ9,ah,cH,eK,bC,cu,cI,fx,gR,de,aI]
 ·unfold vC;have e5:(dj b).length+(b.length-(dj b).length)=b.length:=by omega
  simp only[vL,zh,Aw,dw];simp[lr,lk,lg,k9,k8,k7,km,mq,mo,mn,iG,iF,iE,iD,iC,iB,ig,jW,lX,mH,hc,h1,h2,e2,e4,e5,hm,sQ7,iQ7,iQ8,iQ9,ah,cH,eK,bC,cu,cI,fx,gR,de,aI]
theorem YT (f:Nat) (x y:Int) (r s:List Int) (hl:r.length+1<=4294967296) (kl:s.length+1<=4294967296):bg aC 0 vC ⟨[(0,.list 1 (ints (x::r))),(1,.list 1 (ints (y::s))),(2,.func (.func f) [] [])],[]⟩=some (.normal,vL f true true (dj (x::r)) (dj (y::s)) [] []):=by
 have Dv:=um x r hl;have hla':(x::r).length<=4294967296:=by simpa using hl
 have h1a:=q9 (x::r) hla';have e2a:(il (x::r)).length=(x::r).length:=jT _;have h2a:=tG (il (x::r)) (by omega);have e3a:dd (il (x::r))=dj (x::r):=rfl;have e4a:=kX (x::r);rw[e2a,e3a] at h2a;have hcb:=um y s kl;have hlb':(y::s).length<=4294967296:=by simpa using kl
 have h1b:=q9 (y::s) hlb';have e2b:(il (y::s)).length=(y::s).length:=jT _;have h2b:=tG (il (y::s)) (by omega);have e3b:dd (il (y::s))=dj (y::s):=rfl;have e4b:=kX (y::s);rw[e2b,e3b] at h2b;generalize x::r=a at *;generalize y::s=b at *;unfold vC;simp only[vL,zh,Aw,dw];by_cases hma:a.length<=(dj a).length
 ·have hma2:a.length-(dj a).length=0:=by omega
  have hma3:(dj a).length=a.length:=by omega
  by_cases hmb:b.length<=(dj b).length
  ·have hmb2:b.length-(dj b).length=0:=by omega
   have hmb3:(dj b).length=b.length:=by omega
   simp[lr,lk,lg,k9,k8,k7,km,mq,mo,mn,iG,iF,iE,iD,iC,iB,ig,jW,lX,mH,Dv,h1a,h2a,e2a,e4a,hma,hma2,hma3,hcb,h1b,h2b,e2b,e4b,hmb,hmb2,hmb3,sQ7,iQ7,iQ8,iQ9,ah,cH,eK,bC,cu,cI,fx,gR,de,aI]
  ·have e5b:(dj b).length+(b.length-(dj b).length)=b.length:=by omega
   simp[lr,lk,lg,k9,k8,k7,km,mq,mo,mn,iG,iF,iE,iD,iC,iB,ig,jW,lX,mH,Dv,h1a,h2a,e2a,e4a,hma,hma2,hma3,hcb,h1b,h2b,e2b,e4b,hmb,e5b,sQ7,iQ7,iQ8,iQ9,ah,cH,eK,bC,cu,cI,fx,gR,de,aI]
 ·have e5a:(dj a).length+(a.length-(dj a).length)=a.length:=by omega
  by_cases hmb:b.length<=(dj b).length
  ·have hmb2:b.length-(dj b).length=0:=by omega
   have hmb3:(dj b).length=b.length:=by omega
   simp[lr,lk,lg,k9,k8,k7,km,mq,mo,mn,iG,iF,iE,iD,iC,iB,ig,jW,lX,mH,Dv,h1a,h2a,e2a,e4a,hma,e5a,hcb,h1b,h2b,e2b,e4b,hmb,hmb2,hmb3,sQ7,iQ7,iQ8,iQ9,ah,cH,eK,bC,cu,cI,fx,gR,de,aI]
  ·have e5b:(dj b).length+(b.length-(dj b).length)=b.length:=by omega
   simp[lr,lk,lg,k9,k8,k7,km,mq,mo,mn,iG,iF,iE,iD,iC,iB,ig,jW,lX,mH,Dv,h1a,h2a,e2a,e4a,hma,e5a,hcb,h1b,h2b,e2b,e4b,hmb,e5b,sQ7,iQ7,iQ8,iQ9,ah,cH,eK,bC,cu,cI,fx,gR,de,aI]
theorem abt (f:Nat) (a b:List Int) (ha:a.length<=4294967296) (hb:b.length<=4294967296):∃b1 b2,bg aC 0 vC ⟨[(0,.list 1 (ints a)),(1,.list 1 (ints b)),(2,.func (.func f) [] [])],[]⟩=some (.normal,vL f b1 b2 (dj a) (dj b) [] []):=by
 cases a with
 |nil=>cases b with
   |nil=>exact⟨_,_,YW f⟩
   |cons y s=>exact⟨_,_,YV f y s (by simpa using hb)⟩
 |cons x r=>cases b with
   |nil=>exact⟨_,_,YU f x r (by simpa using ha)⟩
   |cons y s=>exact⟨_,_,YT f x y r s (by simpa using ha) (by simpa using hb)⟩
theorem seq_assoc {c:dO} {b:Nat} {x y z:C} {s:St}:bg c b (.seq (.seq x y) z) s=bg c b (.seq x (.seq y z)) s:=by
 rw[eU,eU,eU];cases e:bg c b x s with
 |none=>rfl
 |some w=>
   obtain⟨ex,s'⟩:=w;cases ex with
   |normal=>rw[lU,lU,eU]
   |exit i=>rfl
   |ret=>rfl
theorem th {c:dO} {b:Nat} {x y z:C} (h:∀s,bg c b y s=bg c b z s) (s:St):bg c b (.seq x y) s=bg c b (.seq x z) s:=by
 rw[eU,eU];cases e:bg c b x s with
 |none=>rfl
 |some w=>
   obtain⟨ex,s'⟩:=w;cases ex with
   |normal=>rw[lU,lU,h]
   |exit i=>rfl
   |ret=>rfl
theorem Qp (f:Nat) (keep:Bool->Bool->Bool) (hk:xx f keep) (a b:List Int) (hl:a.length+b.length<=4294967296):bU aC nQ4 [.list 1 (ints a),.list 1 (ints b),.func (.func f) [] []] []=some (.list 1 (ints (vM keep (dj a) (dj b))),[]):=by
 rw[fK sQ4 (aF rfl)];obtain⟨b1,b2,h⟩:=abt f a b (by omega) (by omega);have la:=kX a;have lb:=kX b;obtain⟨c1,c2,h'⟩:=YX f keep hk (dj a) (dj b) b1 b2 [] (by simp only[fF]; omega)
 have e:bg aC ([]:Heap).length qQ4.body ⟨dN 0 [.list 1 (ints a),.list 1 (ints b),.func (.func f) [] []],[]⟩=bg aC 0 (.seq vC (.seq (.aJ 0 (.loop lC)) (.seq (.rX ig false [] [6]) .ret))) ⟨[(0,.list 1 (ints a)),(1,.list 1 (ints b)),(2,.func (.func f) [] [])],[]⟩:=by
  exact (th (fun s=>(th (fun s=>(th (fun s=>(th (fun s=>(th (fun s=>rfl) s).trans seq_assoc.symm) s).trans seq_assoc.symm) s).trans seq_assoc.symm) s).trans seq_assoc.symm) _).trans seq_assoc.symm
 rw[e,eU,h,lU,eU,JJ,h',aau,if_pos rfl,lU,List.nil_append];cases c1<;>cases c2<;>(simp only[Aw,zh]; simp[lr,lk,lg,k9,k8,k7,km,mq,mo,mn,iG,iF,iE,iD,iC,iB,ig,qQ4,dw,ah,cH,cc,bR])
theorem Qi (a b:List Int) (hl:a.length+b.length<=4294967296):bU aC nQZ [.list 1 (ints a),.list 1 (ints b)] []=some (.list 1 (ints (minus a b)),[]):=by
 rw[fK sQZ (aF rfl)];have h:=Qp nQ5 (fun _ r=>!r) V9 a b hl;have e:vM (fun _ r=>!r) (dj a) (dj b)=minus a b:=rfl;rw[e] at h;unfold qQZ cQZ;simp[adb,ada,h,sQ4,iQ4,ah,cc,bR,An]
theorem sx (a b:List Int) (hl:a.length+b.length<=4294967296):bU aC nQI [.list 1 (ints a),.list 1 (ints b)] []=some (.bool (a.all fun x=>decide (x∈b)),[]):=by
 rw[fK sQI (aF rfl)];have h:=Qi a b hl
 have e:((minus a b).length:Int)=0 ↔ (a.all fun x=>decide (x∈b))=true:=by
  have h0:((minus a b).length:Int)=0 ↔ minus a b=[]:=by rw[<-List.length_eq_zero_iff]; omega
  rw[h0,List.eq_nil_iff_forall_not_mem,List.all_eq_true];simp only[(rD a b).2,decide_eq_true_eq,not_and,Decidable.not_not]
 unfold qQI cQI;cases hx:a.all fun x=>decide (x∈b)
 ·rw[hx] at e;have e':¬((minus a b).length:Int)=0:=fun k=>absurd (e.1 k) (by simp);have e'':¬minus a b=[]:=fun k=>e' (by rw[k]; rfl);simp[XY,XX,h,e',e'',sQZ,iQZ,ah,cc,bR]
 ·have e':((minus a b).length:Int)=0:=e.2 hx;simp[XY,XX,h,e',sQZ,iQZ,ah,cc,bR]
end Go.BmP
