/- hierarchy.same, Check$1, slices.EqualFunc, ref18.Same: two lists of parts are equal. -/
import Derived.Test.YtbnheahpdodmjaaGreatDoorHkK
set_option linter.unusedSimpArgs false
set_option linter.unusedVariables false
set_option maxRecDepth 100000
set_option maxHeartbeats 8000000
open Bool renaming and_eq_true → ae, false_and → jc, false_ne_true → fu, true_and → jb
open List renaming drop_eq_getElem_cons → bg, drop_length → bY, drop_zero → ct, getD_eq_getElem?_getD → au, getElem?_eq_getElem → ai, getElem_mem → eG, length_map → aQ
open Nat renaming le_of_ble_eq_true → aB
open Option.some renaming inj → bm
namespace Go.BmP
open Go.Am Go.Bm
theorem abQ (x y:Pt) (hx:x.2.2.length<=1000):bu an nQx [bH x,bH y] []=some (.bool (decide (x.1=y.1)&&decide (x.2.2=y.2.2)),[]):=by
 obtain⟨a,b,s⟩:=x;obtain⟨c,d,t⟩:=y;have h2:=ahz s t (by simp at hx; omega);obtain⟨a1,a2,a3,a4,a5,a6,a7,a8,a9,aa,ab⟩:=bj s;obtain⟨b1,b2,b3,b4,b5,b6,b7,b8,b9,ba,bb⟩:=bj t;rw[eO sQx (aB rfl)];unfold bH;simp only;generalize decide (s=t)=z at *;generalize ints s=S1 at *;generalize ints t=T1 at *;unfold qQx cQx;by_cases q1:a=c
 ·subst q1;simp[acQ,acP,h2,a1,a2,a3,a4,a5,a6,a7,a8,a9,aa,ab,b1,b2,b3,b4,b5,b6,b7,b8,b9,ba,bb,aJ,bM,bI,mM,jR,eZ,dq,pl,sQS,iQS]
 ·simp[acQ,acP,q1,h2,a1,a2,a3,a4,a5,a6,a7,a8,a9,aa,ab,b1,b2,b3,b4,b5,b6,b7,b8,b9,ba,bb,aJ,bM,bI,mM,jR,eZ,dq,pl,sQS,iQS]
theorem aiO (x y:Pt):decide (x=y)=((decide (x.1=y.1)&&decide (x.2.2=y.2.2))&&decide (x.2.1=y.2.1)):=by
 obtain⟨a,b,s⟩:=x;obtain⟨c,d,t⟩:=y;rw[Bool.eq_iff_iff];simp only[ae,decide_eq_true_eq,Prod.mk.injEq];constructor
 ·rintro⟨h1,h2,h3⟩; exact⟨⟨h1,h3⟩,h2⟩
 ·rintro⟨⟨h1,h3⟩,h2⟩; exact⟨h1,h2,h3⟩
theorem Xf (x y:Pt) (hx:x.2.2.length<=1000):bu an nQw [bH x,bH y] []=some (.bool (decide (x=y)),[]):=by
 have h2:=abQ x y hx;rw[aiO];generalize (decide (x.1=y.1)&&decide (x.2.2=y.2.2))=z at *;obtain⟨a1,a2,a3,a4,a5,a6,a7,a8,a9,aa,ab⟩:=bj x.2.2;obtain⟨b1,b2,b3,b4,b5,b6,b7,b8,b9,ba,bb⟩:=bj y.2.2;rw[eO sQw (aB rfl)];unfold bH at *;generalize ints x.2.2=S1 at *;generalize ints y.2.2=T1 at *;generalize x.1=x1 at *;generalize x.2.1=x2 at *;generalize y.1=y1 at *;generalize y.2.1=y2 at *;unfold qQw cQw;cases z
 ·simp[X8,X7,h2,a1,a2,a3,a4,a5,a6,a7,a8,a9,aa,ab,b1,b2,b3,b4,b5,b6,b7,b8,b9,ba,bb,aJ,bM,bI,mM,jR,eZ,dq,pl,sQx,iQx]
 ·by_cases q:x2=y2
  ·subst q;simp[X8,X7,h2,a1,a2,a3,a4,a5,a6,a7,a8,a9,aa,ab,b1,b2,b3,b4,b5,b6,b7,b8,b9,ba,bb,aJ,bM,bI,mM,jR,eZ,dq,pl,sQx,iQx]
  ·simp[X8,X7,h2,q,a1,a2,a3,a4,a5,a6,a7,a8,a9,aa,ab,b1,b2,b3,b4,b5,b6,b7,b8,b9,ba,bb,aJ,bM,bI,mM,jR,eZ,dq,pl,sQx,iQx]
def Uc:AV:=.func (.func nQw) [] []
def efSt (p H:List AV) (n i:Nat) (J:Env):St:=⟨(1,.list 3 H)::(2,Uc)::(15,.list 3 p)::(16,.int .i64 n)::(17,.int .i64 i)::J,[]⟩
theorem aaX (p H:List Pt) (hl:p.length=H.length) (hp:p.length<=100000) (hs:∀x∈p,x.2.2.length<=1000):∀(n i:Nat),i+n=p.length ->
  aY an 0 (.loop S8) (efSt (p.map bH) (H.map bH) p.length i []) =
   if p.drop i=H.drop i then some (.exit 0,efSt (p.map bH) (H.map bH) p.length p.length [(18,.bool false)]) else some (.ret,⟨[(6,.bool false)],[]⟩)
 |0,i,hi=>by
   obtain rfl:i=p.length:=by omega
   rw[bY,hl,bY,if_pos rfl];refine bt ?_;unfold efSt Uc;generalize p.map bH=P1 at *;generalize H.map bH=H1 at *;unfold S8;simp[Js,Jr,Jq,Jp,Jo,Jn,Jm,Jl,Jk,Jj,Cb]
 |n+1,i,hi=>by
   have h1:i<p.length:=by omega
   have h2:i<H.length:=by omega
   have k1:(i:Int)<p.length:=by omega
   have k2:(i:Int)<H.length:=by omega
   have hw:=dO (i:=i) (by omega);have g3:=rR p i h1;have f3:=rR H i h2;have lp:(p.map bH).length=p.length:=aQ _;have lH:(H.map bH).length=H.length:=aQ _;have h1':i<(p.map bH).length:=by omega
   have E6:i<(H.map bH).length:=by omega
   have g4:∀h,(p.map bH)[i]'h=.agg [.int .i64 p[i].1,.int .i64 p[i].2.1,.list 1 (ints p[i].2.2)]:=fun h=>by
    rw[ai h] at g3;exact bm g3
   have f4:∀h,(H.map bH)[i]'h=.agg [.int .i64 H[i].1,.int .i64 H[i].2.1,.list 1 (ints H[i].2.2)]:=fun h=>by
    rw[ai h] at f3;exact bm f3
   have ck:=Xf p[i] H[i] (hs _ (eG h1));have ih:=aaX p H hl hp hs n (i+1) (by omega);obtain⟨a1,a2,a3,a4,a5,a6,a7,a8,a9,aa,ab⟩:=bj p[i].2.2;obtain⟨b1,b2,b3,b4,b5,b6,b7,b8,b9,ba,bb⟩:=bj H[i].2.2;rw[bg h1,bg h2];by_cases q:p[i]=H[i]
   ·have e:(p[i]::p.drop (i+1)=H[i]::H.drop (i+1)) ↔ (p.drop (i+1)=H.drop (i+1)):=by
     rw[List.cons_eq_cons];exact⟨fun h=>h.2,fun h=>⟨q,h⟩⟩
    simp only[e];refine (aV ?_).trans ih;clear ih e;rw[decide_eq_true q] at ck;unfold efSt Uc;unfold bH at ck;generalize p.map bH=P1 at *;generalize H.map bH=H1 at *;generalize ints p[i].2.2=S1 at *;generalize ints H[i].2.2=T1 at *;generalize p[i].1=x1 at *;generalize p[i].2.1=x2 at *;generalize H[i].1=y1 at *;generalize H[i].2.1=y2 at *;unfold S8;simp[Js,Jr,Jq,Jp,Jo,Jn,Jm,Jl,Jk,Jj,Cb,k1,k2,hw,g3,g4,f3,f4,h1',E6,h1,h2,lp,lH,ck,Ew,a1,a2,a3,a4,a5,a6,a7,a8,a9,aa,ab,b1,b2,b3,b4,b5,b6,b7,b8,b9,ba,bb,idx,aJ,jR,eZ,dq,pl,kg,eJ,pE,qS,gW,ga,eS,lj,pB,zz,iy,yz,tS,nJ,sQw,iQw]
   ·have e:¬(p[i]::p.drop (i+1)=H[i]::H.drop (i+1)):=fun h=>q (List.cons.inj h).1;rw[if_neg e];refine cZ ?_;clear ih e;rw[decide_eq_false q] at ck;unfold efSt Uc;unfold bH at ck;generalize p.map bH=P1 at *;generalize H.map bH=H1 at *;generalize ints p[i].2.2=S1 at *;generalize ints H[i].2.2=T1 at *;generalize p[i].1=x1 at *;generalize p[i].2.1=x2 at *;generalize H[i].1=y1 at *;generalize H[i].2.1=y2 at *;unfold S8;simp[Js,Jr,Jq,Jp,Jo,Jn,Jm,Jl,Jk,Jj,Cb,k1,k2,hw,g3,g4,f3,f4,h1',E6,h1,h2,lp,lH,ck,Ew,a1,a2,a3,a4,a5,a6,a7,a8,a9,aa,ab,b1,b2,b3,b4,b5,b6,b7,b8,b9,ba,bb,idx,aJ,jR,eZ,dq,pl,kg,eJ,pE,qS,gW,ga,eS,lj,pB,zz,iy,yz,tS,nJ,sQw,iQw]
/- slices.EqualFunc, ref18.Same, as wholes; hierarchy.Check and ref18.Check: the loop. -/
theorem ahA (p H:List Pt) (hp:p.length<=100000) (hH:H.length<=100000) (hs:∀x∈p,x.2.2.length<=1000):bu an nQv [.list 3 (p.map bH),.list 3 (H.map bH),Uc] []=some (.bool (decide (p=H)),[]):=by
 have lp:(p.map bH).length=p.length:=aQ _;have lH:(H.map bH).length=H.length:=aQ _;rw[eO sQv (aB rfl)];unfold qQv cQv;by_cases hl:p.length=H.length
 ·have lo:=aaX p H hl hp hs p.length 0 (by omega);rw[ct,ct] at lo;have k0:(p.length:Int)=H.length:=by omega
  unfold efSt at lo;unfold Uc at *;simp only[fU] at lo;by_cases q:p=H
  ·rw[if_pos q] at lo;rw[decide_eq_true q];generalize p.map bH=P1 at *;generalize H.map bH=H1 at *;generalize p.length=n1 at *;generalize H.length=n2 at *;subst hl;simp[Js,Jr,Jq,Jp,Jo,Jn,Jm,Jl,Jk,Jj,Cb,lo,lp,lH,Ew,aJ,bM,bI,dq,pl]
  ·rw[if_neg q] at lo;rw[decide_eq_false q];generalize p.map bH=P1 at *;generalize H.map bH=H1 at *;generalize p.length=n1 at *;generalize H.length=n2 at *;subst hl;simp[Js,Jr,Jq,Jp,Jo,Jn,Jm,Jl,Jk,Jj,Cb,lo,lp,lH,Ew,aJ,bM,bI,dq,pl]
 ·have q:¬p=H:=fun e=>hl (by rw[e]);have k0:¬(p.length:Int)=H.length:=by omega
  rw[decide_eq_false q];unfold Uc;generalize p.map bH=P1 at *;generalize H.map bH=H1 at *;simp[Js,Jr,Jq,Jp,Jo,Jn,Jm,Jl,Jk,Jj,Cb,k0,hl,lp,lH,Ew,aJ,bM,bI,dq,pl]
def VI (p H:List AV) (n i:Nat) (J:Env):St:=⟨(0,.list 3 p)::(1,.list 3 H)::(12,.int .i64 n)::(13,.int .i64 i)::J,[]⟩
theorem XU (p H:List Pt) (hl:p.length=H.length) (hp:p.length<=100000) (hs:∀x∈p,x.2.2.length<=1000) (MC:∀x∈H,x.2.2.length<=1000):∀(n i:Nat),i+n=p.length ->
  aY an 0 (.loop S7) (VI (p.map bH) (H.map bH) p.length i []) =
   if p.drop i=H.drop i then some (.exit 0,VI (p.map bH) (H.map bH) p.length p.length [(14,.bool false)]) else some (.ret,⟨[(4,.bool false)],[]⟩)
 |0,i,hi=>by
   obtain rfl:i=p.length:=by omega
   rw[bY,hl,bY,if_pos rfl];refine bt ?_;unfold VI;generalize p.map bH=P1 at *;generalize H.map bH=H1 at *;unfold S7;simp[Gv,Gu,Gt,Gs,Gr,Gq,Gp,Gn,Gm,Gl]
 |n+1,i,hi=>by
   have h1:i<p.length:=by omega
   have h2:i<H.length:=by omega
   have k1:(i:Int)<p.length:=by omega
   have k2:(i:Int)<H.length:=by omega
   have hw:=dO (i:=i) (by omega);have g3:=rR p i h1;have f3:=rR H i h2;have lp:(p.map bH).length=p.length:=aQ _;have lH:(H.map bH).length=H.length:=aQ _;have h1':i<(p.map bH).length:=by omega
   have E6:i<(H.map bH).length:=by omega
   have g4:∀h,(p.map bH)[i]'h=.agg [.int .i64 p[i].1,.int .i64 p[i].2.1,.list 1 (ints p[i].2.2)]:=fun h=>by
    rw[ai h] at g3;exact bm g3
   have f4:∀h,(H.map bH)[i]'h=.agg [.int .i64 H[i].1,.int .i64 H[i].2.1,.list 1 (ints H[i].2.2)]:=fun h=>by
    rw[ai h] at f3;exact bm f3
   have ck:=Ro p[i].2.2 H[i].2.2 (by have:=hs _ (eG h1); omega) (by have:=MC _ (eG h2); omega);have ih:=XU p H hl hp hs MC n (i+1) (by omega);have pe:=aiO p[i] H[i];obtain⟨a1,a2,a3,a4,a5,a6,a7,a8,a9,aa,ab⟩:=bj p[i].2.2;obtain⟨b1,b2,b3,b4,b5,b6,b7,b8,b9,ba,bb⟩:=bj H[i].2.2;rw[bg h1,bg h2]
   have main:aY an 0 S7 (VI (p.map bH) (H.map bH) p.length i [])=if decide (p[i]=H[i])=true then some (.normal,VI (p.map bH) (H.map bH) p.length (i+1) []) else some (.ret,⟨[(4,.bool false)],[]⟩):=by
    rw[pe];clear ih pe;unfold VI;generalize decide (p[i].2.2=H[i].2.2)=z at *;generalize p.map bH=P1 at *;generalize H.map bH=H1 at *;generalize ints p[i].2.2=S1 at *;generalize ints H[i].2.2=T1 at *;generalize p[i].1=x1 at *;generalize p[i].2.1=x2 at *;generalize H[i].1=y1 at *;generalize H[i].2.1=y2 at *;unfold S7;by_cases q1:x1=y1
    ·by_cases q2:x2=y2
     ·subst q1;subst q2;cases z<;>simp[Gv,Gu,Gt,Gs,Gr,Gq,Gp,Gn,Gm,Gl,k1,k2,hw,g3,g4,f3,f4,h1',E6,h1,h2,lp,lH,ck,a1,a2,a3,a4,a5,a6,a7,a8,a9,aa,ab,b1,b2,b3,b4,b5,b6,b7,b8,b9,ba,bb,idx,aJ,dq,pl,sQk,iQk]
     ·subst q1;cases z<;>simp[Gv,Gu,Gt,Gs,Gr,Gq,Gp,Gn,Gm,Gl,k1,k2,hw,g3,g4,f3,f4,h1',E6,h1,h2,lp,lH,q2,a1,a2,a3,a4,a5,a6,a7,a8,a9,aa,ab,b1,b2,b3,b4,b5,b6,b7,b8,b9,ba,bb,idx,aJ,dq,pl,sQk,iQk]
    ·cases z<;>simp[Gv,Gu,Gt,Gs,Gr,Gq,Gp,Gn,Gm,Gl,k1,k2,hw,g3,g4,f3,f4,h1',E6,h1,h2,lp,lH,q1,a1,a2,a3,a4,a5,a6,a7,a8,a9,aa,ab,b1,b2,b3,b4,b5,b6,b7,b8,b9,ba,bb,idx,aJ,dq,pl,sQk,iQk]
   by_cases q:p[i]=H[i]
   ·have e:(p[i]::p.drop (i+1)=H[i]::H.drop (i+1)) ↔ (p.drop (i+1)=H.drop (i+1)):=by
     rw[List.cons_eq_cons];exact⟨fun h=>h.2,fun h=>⟨q,h⟩⟩
    simp only[e];rw[if_pos (decide_eq_true q)] at main;exact (aV main).trans ih
   ·have e:¬(p[i]::p.drop (i+1)=H[i]::H.drop (i+1)):=fun h=>q (List.cons.inj h).1;rw[if_neg e];rw[if_neg (by rw[decide_eq_false q]; exact fu)] at main;exact cZ main
theorem af7 (p H:List Pt) (hp:p.length<=100000) (hH:H.length<=100000) (hs:∀x∈p,x.2.2.length<=1000) (MC:∀x∈H,x.2.2.length<=1000):bu an nQz [.list 3 (p.map bH),.list 3 (H.map bH)] []=some (.bool (decide (p=H)),[]):=by
 have lp:(p.map bH).length=p.length:=aQ _;have lH:(H.map bH).length=H.length:=aQ _;rw[eO sQz (aB rfl)];unfold qQz cQz;by_cases hl:p.length=H.length
 ·have lo:=XU p H hl hp hs MC p.length 0 (by omega);rw[ct,ct] at lo;unfold VI at lo;simp only[fU] at lo;by_cases q:p=H
  ·rw[if_pos q] at lo;rw[decide_eq_true q];generalize p.map bH=P1 at *;generalize H.map bH=H1 at *;generalize p.length=n1 at *;generalize H.length=n2 at *;subst hl;simp[Gv,Gu,Gt,Gs,Gr,Gq,Gp,Gn,Gm,Gl,lo,lp,lH,aJ,bM,bI,dq,pl]
  ·rw[if_neg q] at lo;rw[decide_eq_false q];generalize p.map bH=P1 at *;generalize H.map bH=H1 at *;generalize p.length=n1 at *;generalize H.length=n2 at *;subst hl;simp[Gv,Gu,Gt,Gs,Gr,Gq,Gp,Gn,Gm,Gl,lo,lp,lH,aJ,bM,bI,dq,pl]
 ·have q:¬p=H:=fun e=>hl (by rw[e]);have k0:¬(p.length:Int)=H.length:=by omega
  rw[decide_eq_false q];generalize p.map bH=P1 at *;generalize H.map bH=H1 at *;simp[Gv,Gu,Gt,Gs,Gr,Gq,Gp,Gn,Gm,Gl,k0,hl,lp,lH,aJ,bM,bI,dq,pl]
/- hierarchy.Check and ref18.Check say the same of any list of parts. -/
def Z9 (N:Nat) (p:List Pt) (i:Nat):Bool:=sa (N:Int) (-1) (bR p i)&&(decide (-1<=pj p i)&&decide (pj p i<(i:Int)))
def okF (N:Nat) (p:List Pt):Nat->Nat->Bool
 |0,_=>true
 |n+1,i=>Z9 N p i&&okF N p n (i+1)
def F6 (N:Nat) (H p:List Pt):Int:=if okF N p p.length 0=true then (if decide (p=H)=true then 0 else 12) else 4
def ET (N:Nat) (Es:List Ed) (p H:List AV) (n i:Nat) (J:Env):St:=⟨(1,.list 3 p)::(2,.ptr 0 0)::(5,.list 3 H)::(17,.list 3 p)::(18,.int .i64 n)::(19,.int .i64 i)::J,uC N Es⟩
theorem ZG (P:List Pt) (i:Nat) (hi:i<P.length):(P.map bH)[i]?=some (.agg [.int .i64 (yG P i),.int .i64 (pj P i),.list 1 (ints (bR P i))]):=by
 unfold yG pj bR;rw[List.getElem?_map,au,ai hi];rfl
theorem abq {N:Nat} (hN:N<=64) {l:List Int} (h:sa (N:Int) (-1) l=true):l.length<=64:=by
 obtain⟨u,b⟩:=(Fa _).1 h
 have:=u9 (A:=l) (B:=(List.range N).map fun n=>((n:Nat):Int)) (u.imp fun{a b} h=>by omega) fun x hx=>by
  have:=b x hx;exact List.mem_map.2 ⟨x.toNat,List.mem_range.2 (by omega),by omega⟩
 rw[aQ,List.length_range] at this;omega
theorem V5 {N:Nat} (hN:N<=64) {p:List Pt}:∀(n i:Nat),i+n=p.length->okF N p n i=true->∀j,i<=j->j<p.length->(bR p j).length<=64
 |0,i,hi,_,j,h1,h2=>by omega
 |n+1,i,hi,h,j,h1,h2=>by
   have e:okF N p (n+1) i=(Z9 N p i&&okF N p n (i+1)):=rfl;rw[e,ae] at h;rcases Nat.eq_or_lt_of_le h1 with rfl|h1
   ·have:=h.1;unfold Z9 at this;rw[ae] at this;exact abq hN this.1
   ·exact V5 hN n (i+1) (by omega) h.2 j h1 h2
theorem aaa {N:Nat} {p:List Pt} (h:∀j,0<=j->j<p.length->(bR p j).length<=64):∀x∈p,x.2.2.length<=1000:=fun x hx=>by
 obtain⟨i,hi,rfl⟩:=List.getElem_of_mem hx;have:=h i (Nat.zero_le _) hi;unfold bR at this;rw[au,ai hi] at this;have e:(some p[i]).getD (0,0,[])=p[i]:=rfl;rw[e] at this;omega
theorem abS (N:Nat) (Es:List Ed) (p:List Pt) (H:List AV) (hp:p.length<=100000) (hs:∀j,(bR p j).length<=9223372036854775807) (i:Nat) (hi:i<p.length) :
  aY an 0 Tf (ET N Es (p.map bH) H p.length i [])=if Z9 N p i=true then some (.normal,ET N Es (p.map bH) H p.length (i+1) []) else some (.ret,⟨[(4,.int .i64 4)],[]⟩):=by
 have k1:(i:Int)<p.length:=by omega
 have hw:=dO (i:=i) (by omega);have g3:=ZG p i hi;have ll:(p.map bH).length=p.length:=aQ _;have bF:i<(p.map bH).length:=by omega
 have g4:∀h,(p.map bH)[i]'h=.agg [.int .i64 (yG p i),.int .i64 (pj p i),.list 1 (ints (bR p i))]:=fun h=>by
  rw[ai h] at g3;exact bm g3
 have vr:=V7 (N:Int) (bR p i) (hs i);obtain⟨a1,a2,a3,a4,a5,a6,a7,a8,a9,aa,ab⟩:=bj (bR p i);unfold Z9;unfold ET uC;generalize sa (N:Int) (-1) (bR p i)=z at *;generalize p.map bH=P1 at *;generalize ints (bR p i)=S1 at *;generalize yG p i=x1 at *;generalize pj p i=x2 at *;generalize dA Es=Y at *;unfold Tf;cases z with
 |false=>simp[GQ,GP,GO,GN,GM,GL,GK,GJ,GI,GH,zh,zg,zf,k1,hi,hw,g3,g4,ll,bF,vr,a1,a2,a3,a4,a5,a6,a7,a8,a9,aa,ab,idx,aJ,dq,pl,sQu,iQu]
 |true=>
   by_cases q1:-1<=x2
   ·have q1':¬x2 < -1:=by omega
    by_cases q2:x2<(i:Int)
    ·have q2':¬(i:Int)<=x2:=by omega
     simp[GQ,GP,GO,GN,GM,GL,GK,GJ,GI,GH,zh,zg,zf,k1,hi,hw,g3,g4,ll,bF,vr,q1,q1',q2,q2',a1,a2,a3,a4,a5,a6,a7,a8,a9,aa,ab,idx,aJ,dq,pl,sQu,iQu]
    ·have q2':(i:Int)<=x2:=by omega
     simp[GQ,GP,GO,GN,GM,GL,GK,GJ,GI,GH,zh,zg,zf,k1,hi,hw,g3,g4,ll,bF,vr,q1,q1',q2,q2',a1,a2,a3,a4,a5,a6,a7,a8,a9,aa,ab,idx,aJ,dq,pl,sQu,iQu]
   ·have q1':x2 < -1:=by omega
    simp[GQ,GP,GO,GN,GM,GL,GK,GJ,GI,GH,zh,zg,zf,k1,hi,hw,g3,g4,ll,bF,vr,q1,q1',a1,a2,a3,a4,a5,a6,a7,a8,a9,aa,ab,idx,aJ,dq,pl,sQu,iQu]
theorem TY (N:Nat) (Es:List Ed) (p:List Pt) (H:List AV) (hp:p.length<=100000) (hs:∀j,(bR p j).length<=9223372036854775807):∀(n i:Nat),i+n=p.length ->
  aY an 0 (.loop Tf) (ET N Es (p.map bH) H p.length i [])=if okF N p n i=true then some (.exit 0,ET N Es (p.map bH) H p.length p.length [(20,.bool false)]) else some (.ret,⟨[(4,.int .i64 4)],[]⟩)
 |0,i,hi=>by
   obtain rfl:i=p.length:=by omega
   have e:okF N p 0 p.length=true:=rfl;rw[if_pos e];refine bt ?_;unfold ET uC;generalize p.map bH=P1 at *;generalize dA Es=Y at *;unfold Tf;simp[GQ,GP,GO,GN,GM,GL,GK,GJ,GI,GH,zh,zg,zf]
 |n+1,i,hi=>by
   have rd:=abS N Es p H hp hs i (by omega);have e:okF N p (n+1) i=(Z9 N p i&&okF N p n (i+1)):=rfl;rw[e];cases q:Z9 N p i with
   |false=>
     rw[q,if_neg fu] at rd;rw[jc,if_neg fu];exact cZ rd
   |true=>
     rw[q,if_pos rfl] at rd;rw[jb];exact (aV rd).trans (TY N Es p H hp hs n (i+1) (by omega))
theorem abx (N:Nat) (Es:List Ed) (p:List Pt) (H:List AV) (hp:p.length<=100000) (hs:∀j,(bR p j).length<=9223372036854775807) (i:Nat) (hi:i<p.length) :
  aY an 0 Te (ET N Es (p.map bH) H p.length i [])=if Z9 N p i=true then some (.normal,ET N Es (p.map bH) H p.length (i+1) []) else some (.ret,⟨[(4,.int .i64 4)],[]⟩):=by
 have k1:(i:Int)<p.length:=by omega
 have hw:=dO (i:=i) (by omega);have g3:=ZG p i hi;have ll:(p.map bH).length=p.length:=aQ _;have bF:i<(p.map bH).length:=by omega
 have g4:∀h,(p.map bH)[i]'h=.agg [.int .i64 (yG p i),.int .i64 (pj p i),.list 1 (ints (bR p i))]:=fun h=>by
  rw[ai h] at g3;exact bm g3
 have vr:=abp (N:Int) (bR p i) (hs i);obtain⟨a1,a2,a3,a4,a5,a6,a7,a8,a9,aa,ab⟩:=bj (bR p i);unfold Z9;unfold ET uC;generalize sa (N:Int) (-1) (bR p i)=z at *;generalize p.map bH=P1 at *;generalize ints (bR p i)=S1 at *;generalize yG p i=x1 at *;generalize pj p i=x2 at *;generalize dA Es=Y at *;unfold Te;cases z with
 |false=>simp[GG,GF,GD,GC,GB,GA,Gz,Gy,Gx,Gw,ze,zd,yZ,k1,hi,hw,g3,g4,ll,bF,vr,a1,a2,a3,a4,a5,a6,a7,a8,a9,aa,ab,idx,aJ,dq,pl,sQy,iQy]
 |true=>
   by_cases q1:-1<=x2
   ·have q1':¬x2 < -1:=by omega
    by_cases q2:x2<(i:Int)
    ·have q2':¬(i:Int)<=x2:=by omega
     simp[GG,GF,GD,GC,GB,GA,Gz,Gy,Gx,Gw,ze,zd,yZ,k1,hi,hw,g3,g4,ll,bF,vr,q1,q1',q2,q2',a1,a2,a3,a4,a5,a6,a7,a8,a9,aa,ab,idx,aJ,dq,pl,sQy,iQy]
    ·have q2':(i:Int)<=x2:=by omega
     simp[GG,GF,GD,GC,GB,GA,Gz,Gy,Gx,Gw,ze,zd,yZ,k1,hi,hw,g3,g4,ll,bF,vr,q1,q1',q2,q2',a1,a2,a3,a4,a5,a6,a7,a8,a9,aa,ab,idx,aJ,dq,pl,sQy,iQy]
   ·have q1':x2 < -1:=by omega
    simp[GG,GF,GD,GC,GB,GA,Gz,Gy,Gx,Gw,ze,zd,yZ,k1,hi,hw,g3,g4,ll,bF,vr,q1,q1',a1,a2,a3,a4,a5,a6,a7,a8,a9,aa,ab,idx,aJ,dq,pl,sQy,iQy]
theorem RA (N:Nat) (Es:List Ed) (p:List Pt) (H:List AV) (hp:p.length<=100000) (hs:∀j,(bR p j).length<=9223372036854775807):∀(n i:Nat),i+n=p.length ->
  aY an 0 (.loop Te) (ET N Es (p.map bH) H p.length i [])=if okF N p n i=true then some (.exit 0,ET N Es (p.map bH) H p.length p.length [(20,.bool false)]) else some (.ret,⟨[(4,.int .i64 4)],[]⟩)
 |0,i,hi=>by
   obtain rfl:i=p.length:=by omega
   have e:okF N p 0 p.length=true:=rfl;rw[if_pos e];refine bt ?_;unfold ET uC;generalize p.map bH=P1 at *;generalize dA Es=Y at *;unfold Te;simp[GG,GF,GD,GC,GB,GA,Gz,Gy,Gx,Gw,ze,zd,yZ]
 |n+1,i,hi=>by
   have rd:=abx N Es p H hp hs i (by omega);have e:okF N p (n+1) i=(Z9 N p i&&okF N p n (i+1)):=rfl;rw[e];cases q:Z9 N p i with
   |false=>
     rw[q,if_neg fu] at rd;rw[jc,if_neg fu];exact cZ rd
   |true=>
     rw[q,if_pos rfl] at rd;rw[jb];exact (aV rd).trans (RA N Es p H hp hs n (i+1) (by omega))
theorem wT {N:Nat} {Es:List Ed} {H:List Pt} (hH:H.length<=900) (hHs:∀x∈H,x.2.2.length<=64) (hc:bu an Oe [.agg [.int .i64 N,.list 2 (dA Es)]] []=some (.dt [.list 3 (H.map bH),.int .i64 0],[])) (hN:N<=64) (p:List Pt) (hp:p.length<=100000) (hs:∀j,(bR p j).length<=9223372036854775807) :
  bu an nQh [.agg [.int .i64 N,.list 2 (dA Es)],.list 3 (p.map bH)] []=some (.int .i64 (F6 N H p),[]):=by
 have lo:=TY N Es p (H.map bH) hp hs p.length 0 (by omega);have lp:(p.map bH).length=p.length:=aQ _;obtain⟨g1,g2,g3,g4,g5,g6,g7,g8⟩:=gU H;obtain⟨h1,h2,h3,h4,h5,h6,h7,h8⟩:=gU p;rw[eO sQh (aB rfl)];unfold F6;unfold ET uC at lo;simp only[fU] at lo;unfold qQh cQh;cases q:okF N p p.length 0 with
 |false=>
   rw[q,if_neg fu] at lo;rw[if_neg fu];generalize p.map bH=P1 at *;generalize H.map bH=H1 at *;generalize dA Es=Y at *;simp[GQ,GP,GO,GN,GM,GL,GK,GJ,GI,GH,zh,zg,zf,hc,lo,lp,g1,g2,g3,g4,g5,g6,g7,g8,h1,h2,h3,h4,h5,h6,h7,h8,aJ,bM,bI,jR,eZ,dq,pl,sQj,iQj,sQv,iQv]
 |true=>
   rw[q,if_pos rfl] at lo;rw[if_pos rfl];have ps:=V5 hN p.length 0 (by omega) q;have er:=ahA p H hp (by omega) (aaa (N:=N) ps);generalize decide (p=H)=z at *;unfold Uc at er;generalize p.map bH=P1 at *;generalize H.map bH=H1 at *;generalize dA Es=Y at *;cases z<;>simp[GQ,GP,GO,GN,GM,GL,GK,GJ,GI,GH,zh,zg,zf,hc,lo,er,lp,g1,g2,g3,g4,g5,g6,g7,g8,h1,h2,h3,h4,h5,h6,h7,h8,Ew,aJ,bM,bI,jR,eZ,dq,pl,sQj,iQj,sQv,iQv]
theorem agb {N:Nat} {Es:List Ed} {H:List Pt} (hH:H.length<=900) (hHs:∀x∈H,x.2.2.length<=64) (hc:bu an Of [.agg [.int .i64 N,.list 2 (dA Es)]] []=some (.dt [.list 3 (H.map bH),.int .i64 0],[])) (hN:N<=64) (p:List Pt) (hp:p.length<=100000) (hs:∀j,(bR p j).length<=9223372036854775807) :
  bu an nQi [.agg [.int .i64 N,.list 2 (dA Es)],.list 3 (p.map bH)] []=some (.int .i64 (F6 N H p),[]):=by
 have lo:=RA N Es p (H.map bH) hp hs p.length 0 (by omega);have lp:(p.map bH).length=p.length:=aQ _;obtain⟨g1,g2,g3,g4,g5,g6,g7,g8⟩:=gU H;obtain⟨h1,h2,h3,h4,h5,h6,h7,h8⟩:=gU p;rw[eO sQi (aB rfl)];unfold F6;unfold ET uC at lo;simp only[fU] at lo;unfold qQi cQi;cases q:okF N p p.length 0 with
 |false=>
   rw[q,if_neg fu] at lo;rw[if_neg fu];generalize p.map bH=P1 at *;generalize H.map bH=H1 at *;generalize dA Es=Y at *;simp[GG,GF,GD,GC,GB,GA,Gz,Gy,Gx,Gw,ze,zd,yZ,hc,lo,lp,g1,g2,g3,g4,g5,g6,g7,g8,h1,h2,h3,h4,h5,h6,h7,h8,aJ,bM,bI,jR,eZ,dq,pl,sQe,iQe,sQz,iQz]
 |true=>
   rw[q,if_pos rfl] at lo;rw[if_pos rfl];have ps:=V5 hN p.length 0 (by omega) q;have er:=af7 p H hp (by omega) (aaa (N:=N) ps) (fun x hx=>by have:=hHs x hx; omega);generalize decide (p=H)=z at *
   skip
   generalize p.map bH=P1 at *;generalize H.map bH=H1 at *;generalize dA Es=Y at *;cases z<;>simp[GG,GF,GD,GC,GB,GA,Gz,Gy,Gx,Gw,ze,zd,yZ,hc,lo,er,lp,g1,g2,g3,g4,g5,g6,g7,g8,h1,h2,h3,h4,h5,h6,h7,h8,Ew,aJ,bM,bI,jR,eZ,dq,pl,sQe,iQe,sQz,iQz]
/- HierarchyChecks: what is asked of the parts themselves; the law's loop. -/
theorem aab {N:Nat} {p:List Pt} (h:∀i,i<p.length->Z9 N p i=true):∀n i,i+n=p.length->okF N p n i=true
 |0,i,_=>rfl
 |n+1,i,hi=>by
   show (Z9 N p i&&okF N p n (i+1))=true;rw[h i (by omega),aab h n (i+1) (by omega)]; rfl
theorem ahe {A:List Nat} {N:Nat} {L:List Int} {P:List Pt} (hL:L.length=N) (h:HOK A N L P):okF N P P.length 0=true:=by
 refine aab (fun i hi=>?_) P.length 0 (by omega);unfold Z9;rw[ae,ae,decide_eq_true_eq,decide_eq_true_eq];refine⟨?_,?_⟩
 ·obtain⟨j,R,_,_,hR,e⟩:=h.lv i hi;rw[e,Fa];refine⟨nA R,fun x hx=>?_⟩;obtain⟨u,rfl,u1,u2⟩:=fG.1 hx;obtain⟨v,v1,v2⟩:=hR;have:=(AR.1 (v2.win u u2)).1;omega
 ·rcases h.par i hi with k|k
  ·omega
  ·omega
theorem afp {A:List Nat} {N:Nat} {L:List Int} {P:List Pt} (hL:L.length=N) (h:HOK A N L P):F6 N P P=0:=by
 unfold F6;rw[if_pos (ahe hL h),if_pos (decide_eq_true rfl)]
end Go.BmP
