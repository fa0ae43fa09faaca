/- What graph.Check and what it calls returns. -/
import Derived.Test.YtpimmjklbakckaaDoorR02d
set_option linter.unusedSimpArgs false
set_option linter.unusedVariables false
set_option maxRecDepth 100000
set_option maxHeartbeats 4000000
open Nat renaming le_of_ble_eq_true → aF
namespace Go.BmP
open Go.Am Go.Bm
theorem Ns (a b:Int):bS aD MC [.list 1 [.int .i64 a,.int .i64 b]] []=some (.int .i64 (if a=0 then b else a),[]):=by
 rw[fZ sQD (aF rfl)];have t2:IntKind.i64.wrap 2=2:=by decide
 have l3:bh aD 0 (.loop oP) ⟨[(3,.int .i64 0),(6,.list 1 [.int .i64 a,.int .i64 b]),(7,.int .i64 2),(8,.int .i64 2)],[]⟩=some (.exit 0,⟨[(3,.int .i64 0),(6,.list 1 [.int .i64 a,.int .i64 b]),(7,.int .i64 2),(8,.int .i64 2),(9,.bool false)],[]⟩):=
  cv (by unfold oP; simp[mw,mq,mo,mj,mi,mh,mg,me,l9,aN,bf,bW,dF,fh,aY,bj,aX,ah,aZ,bG,cB,bU])
 have l2:bh aD 0 (.loop oP) ⟨[(3,.int .i64 0),(6,.list 1 [.int .i64 a,.int .i64 b]),(7,.int .i64 2),(8,.int .i64 1)],[]⟩=if b=0 then some (.exit 0,⟨[(3,.int .i64 0),(6,.list 1 [.int .i64 a,.int .i64 b]),(7,.int .i64 2),(8,.int .i64 2),(9,.bool false)],[]⟩) else some (.ret,⟨[(2,.int .i64 b)],[]⟩):=by
  by_cases hb:b=0
  ·subst hb;rw[if_pos rfl];exact (bI (by unfold oP; simp[mw,mq,mo,mj,mi,mh,mg,me,l9,idx,t2,aN,bf,bW,dF,fh,aY,bj,aX,ah,aZ,bG,cB,bU])).trans l3
  ·rw[if_neg hb];exact fF (by unfold oP; simp[mw,mq,mo,mj,mi,mh,mg,me,l9,hb,idx,aN,bf,bW,dF,fh,aY,bj,aX,ah,aZ,bG,cB,bU])
 have l1:bh aD 0 (.loop oP) ⟨[(3,.int .i64 0),(6,.list 1 [.int .i64 a,.int .i64 b]),(7,.int .i64 2),(8,.int .i64 0)],[]⟩=if a=0 then (if b=0 then some (.exit 0,⟨[(3,.int .i64 0),(6,.list 1 [.int .i64 a,.int .i64 b]),(7,.int .i64 2),(8,.int .i64 2),(9,.bool false)],[]⟩) else some (.ret,⟨[(2,.int .i64 b)],[]⟩)) else some (.ret,⟨[(2,.int .i64 a)],[]⟩):=by
  by_cases ha:a=0
  ·subst ha;rw[if_pos rfl];exact (bI (by unfold oP; simp[mw,mq,mo,mj,mi,mh,mg,me,l9,idx,aN,bf,bW,dF,fh,aY,bj,aX,ah,aZ,bG,cB,bU])).trans l2
  ·rw[if_neg ha];exact fF (by unfold oP; simp[mw,mq,mo,mj,mi,mh,mg,me,l9,ha,idx,aN,bf,bW,dF,fh,aY,bj,aX,ah,aZ,bG,cB,bU])
 clear l2 l3;unfold qQD cQD;by_cases ha:a=0
 ·subst ha;rw[if_pos rfl] at l1;by_cases hb:b=0
  ·subst hb;rw[if_pos rfl] at l1;simp[mw,mq,mo,mj,mi,mh,mg,me,l9,l1,aN,bf,bW,dF,fh,aY,bj,aX,ah,aZ,bG,cB,bU]
  ·rw[if_neg hb] at l1;simp[mw,mq,mo,mj,mi,mh,mg,me,l9,l1,hb,aN,bf,bW,dF,fh,aY,bj,aX,ah,aZ,bG,cB,bU]
 ·rw[if_neg ha] at l1;simp[mw,mq,mo,mj,mi,mh,mg,me,l9,l1,ha,aN,bf,bW,dF,fh,aY,bj,aX,ah,aZ,bG,cB,bU]
def VI (a b:Ed):Int:=if qT a.1 b.1=0 then qT a.2 b.2 else qT a.1 b.1
theorem QZ (a b:Ed):0<=VI a b ↔ ¬KS a b:=by
 unfold VI qT KS;by_cases h1:a.1<b.1
 ·simp[h1]
 ·by_cases h2:b.1<a.1
  ·have:¬a.1=b.1:=by omega
   simp[h1,h2,this]
  ·have:a.1=b.1:=by omega
   simp only[h1,h2,this,if_false,if_true,true_and,false_or];by_cases h3:a.2<b.2
   ·simp[h3]
   ·by_cases h4:b.2<a.2<;>simp[h3,h4]
theorem To (a b:Ed):bS aD nQN [.agg [.int .i64 a.1,.int .i64 a.2],.agg [.int .i64 b.1,.int .i64 b.2]] []=some (.int .i64 (VI a b),[]):=by
 rw[fZ sQN (aF rfl)];have c1:=EX a.1 b.1;have c2:=EX a.2 b.2;have c3:=Ns (qT a.1 b.1) (qT a.2 b.2);unfold qQN cQN VI;simp[abH,abG,c1,c2,c3,UQ,ZF,sQD,iQD,aN,bf,bW,dF,fh,aY,bj,aX,ah,aZ,bG,cB,bU]
def vt (l:List Ed) (i:Nat):Option Ed:=if i=0 then none else l[i-1]?
theorem DH (l:List Ed):vt l 0=none:=rfl
theorem yk (l:List Ed) (i:Nat) (h:i<l.length):vt l (i+1)=some l[i]:=by simp[vt,h]
theorem G9 (m:Int) (l:List Ed) (hl:l.length<4294967297):∀n i:Nat,i+n=l.length->bh aD 0 (.loop zQ) ⟨[(1,.ptr 0 0),(14,.list 2 (iQ l)),(15,.int .i64 l.length),(16,.int .i64 i)],[some [.int .i64 m,.list 2 (iQ l)]]⟩ =
  if jY m (vt l i) (l.drop i)=0 then some (.exit 0,⟨[(1,.ptr 0 0),(14,.list 2 (iQ l)),(15,.int .i64 l.length),(16,.int .i64 l.length),(17,.bool false)],[some [.int .i64 m,.list 2 (iQ l)]]⟩) else some (.ret,⟨[(2,.int .i64 (jY m (vt l i) (l.drop i)))],[]⟩)
 |0,i,hi=>by
   have e:i=l.length:=by omega
   subst e;rw[List.drop_length];exact cv (by unfold zQ; simp[uD,uC,uB,uA,uz,uy,ux,uw,uu,ur,pQ,pP,aN,bf,bW,dF,fh,aY,bj,aX,ah,aZ,bG,cB,bU])
 |n+1,i,hi=>by
   have bY:i<l.length:=by omega
   have h1:(i:Int)<l.length:=by omega
   have ih:=G9 m l hl n (i+1) (by omega);have hw:=fT (i:=i) (by omega);rw[yk l i bY] at ih;rw[List.drop_eq_getElem_cons bY];by_cases ha:l[i].1<0
   ·have e:jY m (vt l i) (l[i]::l.drop (i+1))=6:=by unfold jY; rw[if_pos (.inl ha)]
    rw[e];exact fF (by unfold zQ; simp[uD,uC,uB,uA,uz,uy,ux,uw,uu,ur,pQ,pP,h1,bY,ha,idx,aN,bf,bW,dF,fh,aY,bj,aX,ah,aZ,bG,cB,bU])
   by_cases hb:l[i].2<=l[i].1
   ·have e:jY m (vt l i) (l[i]::l.drop (i+1))=6:=by unfold jY; rw[if_pos (.inr (.inl hb))]
    rw[e];exact fF (by unfold zQ; simp[uD,uC,uB,uA,uz,uy,ux,uw,uu,ur,pQ,pP,h1,bY,ha,hb,idx,aN,bf,bW,dF,fh,aY,bj,aX,ah,aZ,bG,cB,bU])
   by_cases hc:m<=l[i].2
   ·have e:jY m (vt l i) (l[i]::l.drop (i+1))=6:=by unfold jY; rw[if_pos (.inr (.inr hc))]
    rw[e];exact fF (by unfold zQ; simp[uD,uC,uB,uA,uz,uy,ux,uw,uu,ur,pQ,pP,h1,bY,ha,hb,hc,idx,aN,bf,bW,dF,fh,aY,bj,aX,ah,aZ,bG,cB,bU])
   have hn:¬(l[i].1<0\/l[i].2<=l[i].1\/m<=l[i].2):=by omega
   cases i with
   |zero=>
     have e:jY m (vt l 0) (l[0]::l.drop (0+1))=jY m (some l[0]) (l.drop (0+1)):=by
      conv=>lhs; unfold jY
      rw[if_neg hn,DH,if_neg (show ¬Mn none l[0] from fun h=>h)]
     rw[e];exact (bI (by unfold zQ; simp[uD,uC,uB,uA,uz,uy,ux,uw,uu,ur,pQ,pP,h1,bY,ha,hb,hc,hw,idx,aN,bf,bW,dF,fh,aY,bj,aX,ah,aZ,bG,cB,bU])).trans ih
   |succ j=>
     have hj:j<l.length:=by omega
     have hj1:(j:Int)<l.length:=by omega
     have hp:(0:Int)<(j:Int)+1:=by omega
     have ZP:(0:Int)<=(j:Int)+1:=by omega
     have hw2:=Gb (i:=j) (by omega);have h1:(j:Int)+1<l.length:=by omega
     have hw:IntKind.i64.wrap ((j:Int)+1+1)=(j:Int)+1+1:=aei (j:=j+1+1) rfl (by omega);have ho:=To l[j] l[j+1];by_cases hd:0<=VI l[j] l[j+1]
     ·have e:jY m (vt l (j+1)) (l[j+1]::l.drop (j+1+1))=5:=by
       unfold jY;rw[if_neg hn,yk l j hj,if_pos (show Mn (some l[j]) l[j+1] from (QZ _ _).1 hd)]
      rw[e];exact fF (by unfold zQ; simp[uD,uC,uB,uA,uz,uy,ux,uw,uu,ur,pQ,pP,h1,bY,ha,hb,hc,hj,hj1,hp,ZP,hw2,ho,hd,idx,sQN,iQN,aN,bf,bW,dF,fh,aY,bj,aX,ah,aZ,bG,cB,bU])
     ·have hlt':KS l[j] l[j+1]:=by
       apply Decidable.not_not.1;exact fun k=>hd ((QZ _ _).2 k)
      have e:jY m (vt l (j+1)) (l[j+1]::l.drop (j+1+1))=jY m (some l[j+1]) (l.drop (j+1+1)):=by
       conv=>lhs; unfold jY
       rw[if_neg hn,yk l j hj,if_neg (show ¬Mn (some l[j]) l[j+1] from fun k=>k hlt')]
      rw[e];exact (bI (by unfold zQ; simp[uD,uC,uB,uA,uz,uy,ux,uw,uu,ur,pQ,pP,h1,bY,ha,hb,hc,hj,hj1,hp,ZP,hw,hw2,ho,hd,idx,sQN,iQN,aN,bf,bW,dF,fh,aY,bj,aX,ah,aZ,bG,cB,bU])).trans ih
theorem Xg (m:Int) (l:List Ed) (hl:l.length<4294967297):bS aD nQy [.agg [.int .i64 m,.list 2 (iQ l)]] []=some (.int .i64 (chkG m l),[]):=by
 rw[fZ sQy (aF rfl)];have h:=G9 m l hl l.length 0 (by omega);rw[mB,List.drop_zero,DH] at h;unfold qQy cQy chkG;by_cases ha:m<0
 ·simp[uD,uC,uB,uA,uz,uy,ux,uw,uu,ur,pQ,pP,ha,aN,bf,bW,dF,fh,aY,bj,aX,ah,aZ,bG,cB,bU]
 by_cases hb:64<m
 ·simp[uD,uC,uB,uA,uz,uy,ux,uw,uu,ur,pQ,pP,ha,hb,aN,bf,bW,dF,fh,aY,bj,aX,ah,aZ,bG,cB,bU]
 rw[if_neg (by omega)];by_cases hc:jY m none l=0
 ·rw[if_pos hc] at h;rw[hc];simp[uD,uC,uB,uA,uz,uy,ux,uw,uu,ur,pQ,pP,ha,hb,h,aN,bf,bW,dF,fh,aY,bj,aX,ah,aZ,bG,cB,bU]
 ·rw[if_neg hc] at h;simp[uD,uC,uB,uA,uz,uy,ux,uw,uu,ur,pQ,pP,ha,hb,h,aN,bf,bW,dF,fh,aY,bj,aX,ah,aZ,bG,cB,bU]
end Go.BmP
