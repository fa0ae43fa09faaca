/- What functions of cohesionref03 return: Before, edge, ends, with, Of, Check. -/
import Derived.Test.YtbnheahpdodmjabGreatDoorR02d
set_option linter.unusedSimpArgs false
set_option linter.unusedVariables false
set_option maxRecDepth 100000
set_option maxHeartbeats 4000000
open List renaming drop_eq_getElem_cons → bz, drop_length → cE, drop_zero → cP
open Nat renaming le_of_ble_eq_true → au
namespace Go.BmP
open Go.Am Go.Bm
theorem YK (a b:Ed):bJ aq XI [.agg [.int .i64 a.1,.int .i64 a.2],.agg [.int .i64 b.1,.int .i64 b.2]] []=some (.bool (decide (LR a b)),[]):=by
 rw[dZ sQa1 (au rfl)];unfold qQa1 cQa1 LR;by_cases h1:a.1<b.1
 ·simp[KQ,KP,h1,aH,aN,bI,cV,dY,aM,aR,aK,ah,aQ,bu,bL,bC]
 ·by_cases h2:a.1=b.1
  ·by_cases h3:a.2<b.2
   ·simp[KQ,KP,h1,h2,h3,aH,aN,bI,cV,dY,aM,aR,aK,ah,aQ,bu,bL,bC]
   ·simp[KQ,KP,h1,h2,h3,aH,aN,bI,cV,dY,aM,aR,aK,ah,aQ,bu,bL,bC]
  ·simp[KQ,KP,h1,h2,aH,aN,bI,cV,dY,aM,aR,aK,ah,aQ,bu,bL,bC]
/- What graph.Check and what it calls returns. -/
theorem Xl (a b:Int):bJ aq Pw [.list 1 [.int .i64 a,.int .i64 b]] []=some (.int .i64 (if a=0 then b else a),[]):=by
 rw[dZ sQ4 (au rfl)];have t2:IntKind.i64.wrap 2=2:=by decide
 have l3:aW aq 0 (.loop rj) ⟨[(3,.int .i64 0),(6,.list 1 [.int .i64 a,.int .i64 b]),(7,.int .i64 2),(8,.int .i64 2)],[]⟩=some (.exit 0,⟨[(3,.int .i64 0),(6,.list 1 [.int .i64 a,.int .i64 b]),(7,.int .i64 2),(8,.int .i64 2),(9,.bool false)],[]⟩):=
  bn (by unfold rj; simp[pw,pq,po,pk,pj,ph,pg,pf,pe,aH,aN,bI,cV,dY,aM,aR,aK,ah,aQ,bu,bL,bC])
 have l2:aW aq 0 (.loop rj) ⟨[(3,.int .i64 0),(6,.list 1 [.int .i64 a,.int .i64 b]),(7,.int .i64 2),(8,.int .i64 1)],[]⟩=if b=0 then some (.exit 0,⟨[(3,.int .i64 0),(6,.list 1 [.int .i64 a,.int .i64 b]),(7,.int .i64 2),(8,.int .i64 2),(9,.bool false)],[]⟩) else some (.ret,⟨[(2,.int .i64 b)],[]⟩):=by
  by_cases hb:b=0
  ·subst hb;rw[if_pos rfl];exact (aS (by unfold rj; simp[pw,pq,po,pk,pj,ph,pg,pf,pe,idx,t2,aH,aN,bI,cV,dY,aM,aR,aK,ah,aQ,bu,bL,bC])).trans l3
  ·rw[if_neg hb];exact dM (by unfold rj; simp[pw,pq,po,pk,pj,ph,pg,pf,pe,hb,idx,aH,aN,bI,cV,dY,aM,aR,aK,ah,aQ,bu,bL,bC])
 have l1:aW aq 0 (.loop rj) ⟨[(3,.int .i64 0),(6,.list 1 [.int .i64 a,.int .i64 b]),(7,.int .i64 2),(8,.int .i64 0)],[]⟩=if a=0 then (if b=0 then some (.exit 0,⟨[(3,.int .i64 0),(6,.list 1 [.int .i64 a,.int .i64 b]),(7,.int .i64 2),(8,.int .i64 2),(9,.bool false)],[]⟩) else some (.ret,⟨[(2,.int .i64 b)],[]⟩)) else some (.ret,⟨[(2,.int .i64 a)],[]⟩):=by
  by_cases ha:a=0
  ·subst ha;rw[if_pos rfl];exact (aS (by unfold rj; simp[pw,pq,po,pk,pj,ph,pg,pf,pe,idx,aH,aN,bI,cV,dY,aM,aR,aK,ah,aQ,bu,bL,bC])).trans l2
  ·rw[if_neg ha];exact dM (by unfold rj; simp[pw,pq,po,pk,pj,ph,pg,pf,pe,ha,idx,aH,aN,bI,cV,dY,aM,aR,aK,ah,aQ,bu,bL,bC])
 clear l2 l3;unfold qQ4 cQ4;by_cases ha:a=0
 ·subst ha;rw[if_pos rfl] at l1;by_cases hb:b=0
  ·subst hb;rw[if_pos rfl] at l1;simp[pw,pq,po,pk,pj,ph,pg,pf,pe,l1,aH,aN,bI,cV,dY,aM,aR,aK,ah,aQ,bu,bL,bC]
  ·rw[if_neg hb] at l1;simp[pw,pq,po,pk,pj,ph,pg,pf,pe,l1,hb,aH,aN,bI,cV,dY,aM,aR,aK,ah,aQ,bu,bL,bC]
 ·rw[if_neg ha] at l1;simp[pw,pq,po,pk,pj,ph,pg,pf,pe,l1,ha,aH,aN,bI,cV,dY,aM,aR,aK,ah,aQ,bu,bL,bC]
def ordI (a b:Ed):Int:=if uD a.1 b.1=0 then uD a.2 b.2 else uD a.1 b.1
theorem abc (a b:Ed):0<=ordI a b ↔ ¬LR a b:=by
 unfold ordI uD LR;by_cases h1:a.1<b.1
 ·simp[h1]
 ·by_cases h2:b.1<a.1
  ·have:¬a.1=b.1:=by omega
   simp[h1,h2,this]
  ·have:a.1=b.1:=by omega
   simp only[h1,h2,this,if_false,if_true,true_and,false_or];by_cases h3:a.2<b.2
   ·simp[h3]
   ·by_cases h4:b.2<a.2<;>simp[h3,h4]
theorem acZ (a b:Ed):bJ aq XE [.agg [.int .i64 a.1,.int .i64 a.2],.agg [.int .i64 b.1,.int .i64 b.2]] []=some (.int .i64 (ordI a b),[]):=by
 rw[dZ sQa8 (au rfl)];have c1:=MO a.1 b.1;have c2:=MO a.2 b.2;have c3:=Xl (uD a.1 b.1) (uD a.2 b.2);unfold qQa8 cQa8 ordI;simp[aeM,aeL,c1,c2,c3,sQ5,iQ5,sQ4,iQ4,aH,aN,bI,cV,dY,aM,aR,aK,ah,aQ,bu,bL,bC]
def py (l:List Ed) (i:Nat):Option Ed:=if i=0 then none else l[i-1]?
theorem xh (l:List Ed):py l 0=none:=rfl
theorem qj (l:List Ed) (i:Nat) (h:i<l.length):py l (i+1)=some l[i]:=by simp[py,h]
theorem P4 (m:Int) (l:List Ed) (hl:l.length<4294967297):∀n i:Nat,i+n=l.length->aW aq 0 (.loop E6) ⟨[(1,.ptr 0 0),(14,.list 2 (fe l)),(15,.int .i64 l.length),(16,.int .i64 i)],[some [.int .i64 m,.list 2 (fe l)]]⟩ =
  if fO m (py l i) (l.drop i)=0 then some (.exit 0,⟨[(1,.ptr 0 0),(14,.list 2 (fe l)),(15,.int .i64 l.length),(16,.int .i64 l.length),(17,.bool false)],[some [.int .i64 m,.list 2 (fe l)]]⟩) else some (.ret,⟨[(2,.int .i64 (fO m (py l i) (l.drop i)))],[]⟩)
 |0,i,hi=>by
   have e:i=l.length:=by omega
   subst e;rw[cE];exact bn (by unfold E6; simp[yf,ye,yd,yc,yb,ya,xZ,xY,xX,xW,rR,rQ,aH,aN,bI,cV,dY,aM,aR,aK,ah,aQ,bu,bL,bC])
 |n+1,i,hi=>by
   have bE:i<l.length:=by omega
   have h1:(i:Int)<l.length:=by omega
   have ih:=P4 m l hl n (i+1) (by omega);have hw:=dA (i:=i) (by omega);rw[qj l i bE] at ih;rw[bz bE];by_cases ha:l[i].1<0
   ·have e:fO m (py l i) (l[i]::l.drop (i+1))=6:=by unfold fO; rw[if_pos (.inl ha)]
    rw[e];exact dM (by unfold E6; simp[yf,ye,yd,yc,yb,ya,xZ,xY,xX,xW,rR,rQ,h1,bE,ha,idx,aH,aN,bI,cV,dY,aM,aR,aK,ah,aQ,bu,bL,bC])
   by_cases hb:l[i].2<=l[i].1
   ·have e:fO m (py l i) (l[i]::l.drop (i+1))=6:=by unfold fO; rw[if_pos (.inr (.inl hb))]
    rw[e];exact dM (by unfold E6; simp[yf,ye,yd,yc,yb,ya,xZ,xY,xX,xW,rR,rQ,h1,bE,ha,hb,idx,aH,aN,bI,cV,dY,aM,aR,aK,ah,aQ,bu,bL,bC])
   by_cases hc:m<=l[i].2
   ·have e:fO m (py l i) (l[i]::l.drop (i+1))=6:=by unfold fO; rw[if_pos (.inr (.inr hc))]
    rw[e];exact dM (by unfold E6; simp[yf,ye,yd,yc,yb,ya,xZ,xY,xX,xW,rR,rQ,h1,bE,ha,hb,hc,idx,aH,aN,bI,cV,dY,aM,aR,aK,ah,aQ,bu,bL,bC])
   have hn:¬(l[i].1<0\/l[i].2<=l[i].1\/m<=l[i].2):=by omega
   cases i with
   |zero=>
     have e:fO m (py l 0) (l[0]::l.drop (0+1))=fO m (some l[0]) (l.drop (0+1)):=by
      conv=>lhs; unfold fO
      rw[if_neg hn,xh,if_neg (show ¬M7 none l[0] from fun h=>h)]
     rw[e];exact (aS (by unfold E6; simp[yf,ye,yd,yc,yb,ya,xZ,xY,xX,xW,rR,rQ,h1,bE,ha,hb,hc,hw,idx,aH,aN,bI,cV,dY,aM,aR,aK,ah,aQ,bu,bL,bC])).trans ih
   |succ j=>
     have hj:j<l.length:=by omega
     have hj1:(j:Int)<l.length:=by omega
     have hp:(0:Int)<(j:Int)+1:=by omega
     have hp0:(0:Int)<=(j:Int)+1:=by omega
     have hw2:=I9 (i:=j) (by omega);have h1:(j:Int)+1<l.length:=by omega
     have hw:IntKind.i64.wrap ((j:Int)+1+1)=(j:Int)+1+1:=adE (j:=j+1+1) rfl (by omega);have ho:=acZ l[j] l[j+1];by_cases hd:0<=ordI l[j] l[j+1]
     ·have e:fO m (py l (j+1)) (l[j+1]::l.drop (j+1+1))=5:=by
       unfold fO;rw[if_neg hn,qj l j hj,if_pos (show M7 (some l[j]) l[j+1] from (abc _ _).1 hd)]
      rw[e];exact dM (by unfold E6; simp[yf,ye,yd,yc,yb,ya,xZ,xY,xX,xW,rR,rQ,h1,bE,ha,hb,hc,hj,hj1,hp,hp0,hw2,ho,hd,idx,sQa8,iQa8,aH,aN,bI,cV,dY,aM,aR,aK,ah,aQ,bu,bL,bC])
     ·have hlt':LR l[j] l[j+1]:=by
       apply Decidable.not_not.1;exact fun k=>hd ((abc _ _).2 k)
      have e:fO m (py l (j+1)) (l[j+1]::l.drop (j+1+1))=fO m (some l[j+1]) (l.drop (j+1+1)):=by
       conv=>lhs; unfold fO
       rw[if_neg hn,qj l j hj,if_neg (show ¬M7 (some l[j]) l[j+1] from fun k=>k hlt')]
      rw[e];exact (aS (by unfold E6; simp[yf,ye,yd,yc,yb,ya,xZ,xY,xX,xW,rR,rQ,h1,bE,ha,hb,hc,hj,hj1,hp,hp0,hw,hw2,ho,hd,idx,sQa8,iQa8,aH,aN,bI,cV,dY,aM,aR,aK,ah,aQ,bu,bL,bC])).trans ih
theorem agD (m:Int) (l:List Ed) (hl:l.length<4294967297):bJ aq nQZ [.agg [.int .i64 m,.list 2 (fe l)]] []=some (.int .i64 (chkG m l),[]):=by
 rw[dZ sQZ (au rfl)];have h:=P4 m l hl l.length 0 (by omega);rw[fH,cP,xh] at h;unfold qQZ cQZ chkG;by_cases ha:m<0
 ·simp[yf,ye,yd,yc,yb,ya,xZ,xY,xX,xW,rR,rQ,ha,aH,aN,bI,cV,dY,aM,aR,aK,ah,aQ,bu,bL,bC]
 by_cases hb:64<m
 ·simp[yf,ye,yd,yc,yb,ya,xZ,xY,xX,xW,rR,rQ,ha,hb,aH,aN,bI,cV,dY,aM,aR,aK,ah,aQ,bu,bL,bC]
 rw[if_neg (by omega)];by_cases hc:fO m none l=0
 ·rw[if_pos hc] at h;rw[hc];simp[yf,ye,yd,yc,yb,ya,xZ,xY,xX,xW,rR,rQ,ha,hb,h,aH,aN,bI,cV,dY,aM,aR,aK,ah,aQ,bu,bL,bC]
 ·rw[if_neg hc] at h;simp[yf,ye,yd,yc,yb,ya,xZ,xY,xX,xW,rR,rQ,ha,hb,h,aH,aN,bI,cV,dY,aM,aR,aK,ah,aQ,bu,bL,bC]
/- What functions of cohesionref03 return: Of, Check, Find. -/
theorem OI (m:Int) (l:List Ed) (hl:l.length<4294967297):∀n i:Nat,i+n=l.length->aW aq 0 (.loop E7) ⟨[(1,.ptr 0 0),(14,.list 2 (fe l)),(15,.int .i64 l.length),(16,.int .i64 i)],[some [.int .i64 m,.list 2 (fe l)]]⟩ =
  if fO m (py l i) (l.drop i)=0 then some (.exit 0,⟨[(1,.ptr 0 0),(14,.list 2 (fe l)),(15,.int .i64 l.length),(16,.int .i64 l.length),(17,.bool false)],[some [.int .i64 m,.list 2 (fe l)]]⟩) else some (.ret,⟨[(2,.int .i64 (fO m (py l i) (l.drop i)))],[]⟩)
 |0,i,hi=>by
   have e:i=l.length:=by omega
   subst e;rw[cE];exact bn (by unfold E7; simp[yt,yq,yp,yn,ym,yl,yk,yj,yh,yg,rT,rS,aH,aN,bI,cV,dY,aM,aR,aK,ah,aQ,bu,bL,bC])
 |n+1,i,hi=>by
   have bE:i<l.length:=by omega
   have h1:(i:Int)<l.length:=by omega
   have ih:=OI m l hl n (i+1) (by omega);have hw:=dA (i:=i) (by omega);rw[qj l i bE] at ih;rw[bz bE];by_cases ha:l[i].1<0
   ·have e:fO m (py l i) (l[i]::l.drop (i+1))=6:=by unfold fO; rw[if_pos (.inl ha)]
    rw[e];exact dM (by unfold E7; simp[yt,yq,yp,yn,ym,yl,yk,yj,yh,yg,rT,rS,h1,bE,ha,idx,aH,aN,bI,cV,dY,aM,aR,aK,ah,aQ,bu,bL,bC])
   by_cases hb:l[i].2<=l[i].1
   ·have e:fO m (py l i) (l[i]::l.drop (i+1))=6:=by unfold fO; rw[if_pos (.inr (.inl hb))]
    rw[e];exact dM (by unfold E7; simp[yt,yq,yp,yn,ym,yl,yk,yj,yh,yg,rT,rS,h1,bE,ha,hb,idx,aH,aN,bI,cV,dY,aM,aR,aK,ah,aQ,bu,bL,bC])
   by_cases hc:m<=l[i].2
   ·have e:fO m (py l i) (l[i]::l.drop (i+1))=6:=by unfold fO; rw[if_pos (.inr (.inr hc))]
    rw[e];exact dM (by unfold E7; simp[yt,yq,yp,yn,ym,yl,yk,yj,yh,yg,rT,rS,h1,bE,ha,hb,hc,idx,aH,aN,bI,cV,dY,aM,aR,aK,ah,aQ,bu,bL,bC])
   have hn:¬(l[i].1<0\/l[i].2<=l[i].1\/m<=l[i].2):=by omega
   cases i with
   |zero=>
     have e:fO m (py l 0) (l[0]::l.drop (0+1))=fO m (some l[0]) (l.drop (0+1)):=by
      conv=>lhs; unfold fO
      rw[if_neg hn,xh,if_neg (show ¬M7 none l[0] from fun h=>h)]
     rw[e];exact (aS (by unfold E7; simp[yt,yq,yp,yn,ym,yl,yk,yj,yh,yg,rT,rS,h1,bE,ha,hb,hc,hw,idx,aH,aN,bI,cV,dY,aM,aR,aK,ah,aQ,bu,bL,bC])).trans ih
   |succ j=>
     have hj:j<l.length:=by omega
     have hj1:(j:Int)<l.length:=by omega
     have hp:(0:Int)<(j:Int)+1:=by omega
     have hp0:(0:Int)<=(j:Int)+1:=by omega
     have hw2:=I9 (i:=j) (by omega);have h1:(j:Int)+1<l.length:=by omega
     have hw:IntKind.i64.wrap ((j:Int)+1+1)=(j:Int)+1+1:=adE (j:=j+1+1) rfl (by omega);have ho:=YK l[j] l[j+1];by_cases hd:LR l[j] l[j+1]
     ·have e:fO m (py l (j+1)) (l[j+1]::l.drop (j+1+1))=fO m (some l[j+1]) (l.drop (j+1+1)):=by
       conv=>lhs; unfold fO
       rw[if_neg hn,qj l j hj,if_neg (show ¬M7 (some l[j]) l[j+1] from fun k=>k hd)]
      rw[e];exact (aS (by unfold E7; simp[yt,yq,yp,yn,ym,yl,yk,yj,yh,yg,rT,rS,h1,bE,ha,hb,hc,hj,hj1,hp,hp0,hw,hw2,ho,hd,idx,sQa1,iQa1,aH,aN,bI,cV,dY,aM,aR,aK,ah,aQ,bu,bL,bC])).trans ih
     ·have e:fO m (py l (j+1)) (l[j+1]::l.drop (j+1+1))=5:=by
       unfold fO;rw[if_neg hn,qj l j hj,if_pos (show M7 (some l[j]) l[j+1] from hd)]
      rw[e];exact dM (by unfold E7; simp[yt,yq,yp,yn,ym,yl,yk,yj,yh,yg,rT,rS,h1,bE,ha,hb,hc,hj,hj1,hp,hp0,hw2,ho,hd,idx,sQa1,iQa1,aH,aN,bI,cV,dY,aM,aR,aK,ah,aQ,bu,bL,bC])
theorem zz (m:Int) (l:List Ed) (hl:l.length<4294967297):bJ aq nQP [.agg [.int .i64 m,.list 2 (fe l)]] []=some (.int .i64 (chkG m l),[]):=by
 rw[dZ sQP (au rfl)];have h:=OI m l hl l.length 0 (by omega);rw[fH,cP,xh] at h;unfold qQP cQP chkG;by_cases ha:m<0
 ·simp[yt,yq,yp,yn,ym,yl,yk,yj,yh,yg,rT,rS,ha,aH,aN,bI,cV,dY,aM,aR,aK,ah,aQ,bu,bL,bC]
 by_cases hb:64<m
 ·simp[yt,yq,yp,yn,ym,yl,yk,yj,yh,yg,rT,rS,ha,hb,aH,aN,bI,cV,dY,aM,aR,aK,ah,aQ,bu,bL,bC]
 rw[if_neg (by omega)];by_cases hc:fO m none l=0
 ·rw[if_pos hc] at h;rw[hc];simp[yt,yq,yp,yn,ym,yl,yk,yj,yh,yg,rT,rS,ha,hb,h,aH,aN,bI,cV,dY,aM,aR,aK,ah,aQ,bu,bL,bC]
 ·rw[if_neg hc] at h;simp[yt,yq,yp,yn,ym,yl,yk,yj,yh,yg,rT,rS,ha,hb,h,aH,aN,bI,cV,dY,aM,aR,aK,ah,aQ,bu,bL,bC]
end Go.BmP
