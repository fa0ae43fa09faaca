/- What functions of cohesionref03 return: Before, edge, ends, with, Of, Check. -/
import Derived.Test.YtpimmjklbakckaaGreatDoorR02d
set_option linter.unusedSimpArgs false
set_option linter.unusedVariables false
set_option maxRecDepth 100000
set_option maxHeartbeats 4000000
open List renaming drop_eq_getElem_cons → bH, drop_length → cI, drop_zero → dc
open Nat renaming le_of_ble_eq_true → aF
namespace Go.BmP
open Go.Am Go.Bm
theorem Rj (a b:Ed):bU aC nQM [.agg [.int .i64 a.1,.int .i64 a.2],.agg [.int .i64 b.1,.int .i64 b.2]] []=some (.bool (decide (Gj a b)),[]):=by
 rw[fK sQM (aF rfl)];unfold qQM cQM Gj;by_cases h1:a.1<b.1
 ·simp[MB,MA,h1,aJ,aS,bG,cU,dR,aM,aV,aL,ah,aU,bm,cc,bR]
 ·by_cases h2:a.1=b.1
  ·by_cases h3:a.2<b.2
   ·simp[MB,MA,h1,h2,h3,aJ,aS,bG,cU,dR,aM,aV,aL,ah,aU,bm,cc,bR]
   ·simp[MB,MA,h1,h2,h3,aJ,aS,bG,cU,dR,aM,aV,aL,ah,aU,bm,cc,bR]
  ·simp[MB,MA,h1,h2,aJ,aS,bG,cU,dR,aM,aV,aL,ah,aU,bm,cc,bR]
/- What graph.Check and what it calls returns. -/
theorem P4 (a b:Int):bU aC O6 [.list 1 [.int .i64 a,.int .i64 b]] []=some (.int .i64 (if a=0 then b else a),[]):=by
 rw[fK sQF (aF rfl)];have t2:IntKind.i64.wrap 2=2:=by decide
 have l3:bg aC 0 (.loop oR) ⟨[(3,.int .i64 0),(6,.list 1 [.int .i64 a,.int .i64 b]),(7,.int .i64 2),(8,.int .i64 2)],[]⟩=some (.exit 0,⟨[(3,.int .i64 0),(6,.list 1 [.int .i64 a,.int .i64 b]),(7,.int .i64 2),(8,.int .i64 2),(9,.bool false)],[]⟩):=
  bI (by unfold oR; simp[mj,mh,mg,me,l9,l8,l7,l6,l5,aJ,aS,bG,cU,dR,aM,aV,aL,ah,aU,bm,cc,bR])
 have l2:bg aC 0 (.loop oR) ⟨[(3,.int .i64 0),(6,.list 1 [.int .i64 a,.int .i64 b]),(7,.int .i64 2),(8,.int .i64 1)],[]⟩=if b=0 then some (.exit 0,⟨[(3,.int .i64 0),(6,.list 1 [.int .i64 a,.int .i64 b]),(7,.int .i64 2),(8,.int .i64 2),(9,.bool false)],[]⟩) else some (.ret,⟨[(2,.int .i64 b)],[]⟩):=by
  by_cases hb:b=0
  ·subst hb;rw[if_pos rfl];exact (bk (by unfold oR; simp[mj,mh,mg,me,l9,l8,l7,l6,l5,idx,t2,aJ,aS,bG,cU,dR,aM,aV,aL,ah,aU,bm,cc,bR])).trans l3
  ·rw[if_neg hb];exact eJ (by unfold oR; simp[mj,mh,mg,me,l9,l8,l7,l6,l5,hb,idx,aJ,aS,bG,cU,dR,aM,aV,aL,ah,aU,bm,cc,bR])
 have l1:bg aC 0 (.loop oR) ⟨[(3,.int .i64 0),(6,.list 1 [.int .i64 a,.int .i64 b]),(7,.int .i64 2),(8,.int .i64 0)],[]⟩=if a=0 then (if b=0 then some (.exit 0,⟨[(3,.int .i64 0),(6,.list 1 [.int .i64 a,.int .i64 b]),(7,.int .i64 2),(8,.int .i64 2),(9,.bool false)],[]⟩) else some (.ret,⟨[(2,.int .i64 b)],[]⟩)) else some (.ret,⟨[(2,.int .i64 a)],[]⟩):=by
  by_cases ha:a=0
  ·subst ha;rw[if_pos rfl];exact (bk (by unfold oR; simp[mj,mh,mg,me,l9,l8,l7,l6,l5,idx,aJ,aS,bG,cU,dR,aM,aV,aL,ah,aU,bm,cc,bR])).trans l2
  ·rw[if_neg ha];exact eJ (by unfold oR; simp[mj,mh,mg,me,l9,l8,l7,l6,l5,ha,idx,aJ,aS,bG,cU,dR,aM,aV,aL,ah,aU,bm,cc,bR])
 clear l2 l3;unfold qQF cQF;by_cases ha:a=0
 ·subst ha;rw[if_pos rfl] at l1;by_cases hb:b=0
  ·subst hb;rw[if_pos rfl] at l1;simp[mj,mh,mg,me,l9,l8,l7,l6,l5,l1,aJ,aS,bG,cU,dR,aM,aV,aL,ah,aU,bm,cc,bR]
  ·rw[if_neg hb] at l1;simp[mj,mh,mg,me,l9,l8,l7,l6,l5,l1,hb,aJ,aS,bG,cU,dR,aM,aV,aL,ah,aU,bm,cc,bR]
 ·rw[if_neg ha] at l1;simp[mj,mh,mg,me,l9,l8,l7,l6,l5,l1,ha,aJ,aS,bG,cU,dR,aM,aV,aL,ah,aU,bm,cc,bR]
def Yl (a b:Ed):Int:=if rK a.1 b.1=0 then rK a.2 b.2 else rK a.1 b.1
theorem Tu (a b:Ed):0<=Yl a b ↔ ¬Gj a b:=by
 unfold Yl rK Gj;by_cases h1:a.1<b.1
 ·simp[h1]
 ·by_cases h2:b.1<a.1
  ·have:¬a.1=b.1:=by omega
   simp[h1,h2,this]
  ·have:a.1=b.1:=by omega
   simp only[h1,h2,this,if_false,if_true,true_and,false_or];by_cases h3:a.2<b.2
   ·simp[h3]
   ·by_cases h4:b.2<a.2<;>simp[h3,h4]
theorem VZ (a b:Ed):bU aC nQS [.agg [.int .i64 a.1,.int .i64 a.2],.agg [.int .i64 b.1,.int .i64 b.2]] []=some (.int .i64 (Yl a b),[]):=by
 rw[fK sQS (aF rfl)];have c1:=GY a.1 b.1;have c2:=GY a.2 b.2;have c3:=P4 (rK a.1 b.1) (rK a.2 b.2);unfold qQS cQS Yl;simp[adl,adk,c1,c2,c3,Xy,iQG,sQF,iQF,aJ,aS,bG,cU,dR,aM,aV,aL,ah,aU,bm,cc,bR]
def mw (l:List Ed) (i:Nat):Option Ed:=if i=0 then none else l[i-1]?
theorem tX (l:List Ed):mw l 0=none:=rfl
theorem nu (l:List Ed) (i:Nat) (h:i<l.length):mw l (i+1)=some l[i]:=by simp[mw,h]
theorem Js (m:Int) (l:List Ed) (hl:l.length<4294967297):∀n i:Nat,i+n=l.length->bg aC 0 (.loop A8) ⟨[(1,.ptr 0 0),(14,.list 2 (fi l)),(15,.int .i64 l.length),(16,.int .i64 i)],[some [.int .i64 m,.list 2 (fi l)]]⟩ =
  if fc m (mw l i) (l.drop i)=0 then some (.exit 0,⟨[(1,.ptr 0 0),(14,.list 2 (fi l)),(15,.int .i64 l.length),(16,.int .i64 l.length),(17,.bool false)],[some [.int .i64 m,.list 2 (fi l)]]⟩) else some (.ret,⟨[(2,.int .i64 (fc m (mw l i) (l.drop i)))],[]⟩)
 |0,i,hi=>by
   have e:i=l.length:=by omega
   subst e;rw[cI];exact bI (by unfold A8; simp[vu,vt,vq,vp,vo,vm,vl,vk,vj,vi,qD,qC,aJ,aS,bG,cU,dR,aM,aV,aL,ah,aU,bm,cc,bR])
 |n+1,i,hi=>by
   have bQ:i<l.length:=by omega
   have h1:(i:Int)<l.length:=by omega
   have ih:=Js m l hl n (i+1) (by omega);have hw:=eO (i:=i) (by omega);rw[nu l i bQ] at ih;rw[bH bQ];by_cases ha:l[i].1<0
   ·have e:fc m (mw l i) (l[i]::l.drop (i+1))=6:=by unfold fc; rw[if_pos (.inl ha)]
    rw[e];exact eJ (by unfold A8; simp[vu,vt,vq,vp,vo,vm,vl,vk,vj,vi,qD,qC,h1,bQ,ha,idx,aJ,aS,bG,cU,dR,aM,aV,aL,ah,aU,bm,cc,bR])
   by_cases hb:l[i].2<=l[i].1
   ·have e:fc m (mw l i) (l[i]::l.drop (i+1))=6:=by unfold fc; rw[if_pos (.inr (.inl hb))]
    rw[e];exact eJ (by unfold A8; simp[vu,vt,vq,vp,vo,vm,vl,vk,vj,vi,qD,qC,h1,bQ,ha,hb,idx,aJ,aS,bG,cU,dR,aM,aV,aL,ah,aU,bm,cc,bR])
   by_cases hc:m<=l[i].2
   ·have e:fc m (mw l i) (l[i]::l.drop (i+1))=6:=by unfold fc; rw[if_pos (.inr (.inr hc))]
    rw[e];exact eJ (by unfold A8; simp[vu,vt,vq,vp,vo,vm,vl,vk,vj,vi,qD,qC,h1,bQ,ha,hb,hc,idx,aJ,aS,bG,cU,dR,aM,aV,aL,ah,aU,bm,cc,bR])
   have hn:¬(l[i].1<0\/l[i].2<=l[i].1\/m<=l[i].2):=by omega
   cases i with
   |zero=>
     have e:fc m (mw l 0) (l[0]::l.drop (0+1))=fc m (some l[0]) (l.drop (0+1)):=by
      conv=>lhs; unfold fc
      rw[if_neg hn,tX,if_neg (show ¬He none l[0] from fun h=>h)]
     rw[e];exact (bk (by unfold A8; simp[vu,vt,vq,vp,vo,vm,vl,vk,vj,vi,qD,qC,h1,bQ,ha,hb,hc,hw,idx,aJ,aS,bG,cU,dR,aM,aV,aL,ah,aU,bm,cc,bR])).trans ih
   |succ j=>
     have hj:j<l.length:=by omega
     have hj1:(j:Int)<l.length:=by omega
     have hp:(0:Int)<(j:Int)+1:=by omega
     have Xa:(0:Int)<=(j:Int)+1:=by omega
     have hw2:=EA (i:=j) (by omega);have h1:(j:Int)+1<l.length:=by omega
     have hw:IntKind.i64.wrap ((j:Int)+1+1)=(j:Int)+1+1:=acL (j:=j+1+1) rfl (by omega);have ho:=VZ l[j] l[j+1];by_cases hd:0<=Yl l[j] l[j+1]
     ·have e:fc m (mw l (j+1)) (l[j+1]::l.drop (j+1+1))=5:=by
       unfold fc;rw[if_neg hn,nu l j hj,if_pos (show He (some l[j]) l[j+1] from (Tu _ _).1 hd)]
      rw[e];exact eJ (by unfold A8; simp[vu,vt,vq,vp,vo,vm,vl,vk,vj,vi,qD,qC,h1,bQ,ha,hb,hc,hj,hj1,hp,Xa,hw2,ho,hd,idx,sQS,iQS,aJ,aS,bG,cU,dR,aM,aV,aL,ah,aU,bm,cc,bR])
     ·have hlt':Gj l[j] l[j+1]:=by
       apply Decidable.not_not.1;exact fun k=>hd ((Tu _ _).2 k)
      have e:fc m (mw l (j+1)) (l[j+1]::l.drop (j+1+1))=fc m (some l[j+1]) (l.drop (j+1+1)):=by
       conv=>lhs; unfold fc
       rw[if_neg hn,nu l j hj,if_neg (show ¬He (some l[j]) l[j+1] from fun k=>k hlt')]
      rw[e];exact (bk (by unfold A8; simp[vu,vt,vq,vp,vo,vm,vl,vk,vj,vi,qD,qC,h1,bQ,ha,hb,hc,hj,hj1,hp,Xa,hw,hw2,ho,hd,idx,sQS,iQS,aJ,aS,bG,cU,dR,aM,aV,aL,ah,aU,bm,cc,bR])).trans ih
theorem ZW (m:Int) (l:List Ed) (hl:l.length<4294967297):bU aC nQA [.agg [.int .i64 m,.list 2 (fi l)]] []=some (.int .i64 (WQ m l),[]):=by
 rw[fK sQA (aF rfl)];have h:=Js m l hl l.length 0 (by omega);rw[jJ,dc,tX] at h;unfold qQA cQA WQ;by_cases ha:m<0
 ·simp[vu,vt,vq,vp,vo,vm,vl,vk,vj,vi,qD,qC,ha,aJ,aS,bG,cU,dR,aM,aV,aL,ah,aU,bm,cc,bR]
 by_cases hb:64<m
 ·simp[vu,vt,vq,vp,vo,vm,vl,vk,vj,vi,qD,qC,ha,hb,aJ,aS,bG,cU,dR,aM,aV,aL,ah,aU,bm,cc,bR]
 rw[if_neg (by omega)];by_cases hc:fc m none l=0
 ·rw[if_pos hc] at h;rw[hc];simp[vu,vt,vq,vp,vo,vm,vl,vk,vj,vi,qD,qC,ha,hb,h,aJ,aS,bG,cU,dR,aM,aV,aL,ah,aU,bm,cc,bR]
 ·rw[if_neg hc] at h;simp[vu,vt,vq,vp,vo,vm,vl,vk,vj,vi,qD,qC,ha,hb,h,aJ,aS,bG,cU,dR,aM,aV,aL,ah,aU,bm,cc,bR]
/- What functions of cohesionref03 return: Of, Check, Find. -/
def ofSt (n:Int) (l:List Ed) (E:AV) (i:Int):St:=⟨[(0,.int .i64 n),(4,.ptr 0 0),(6,.ptr 1 0),(18,.list 2 (fi l)),(19,.int .i64 l.length),(20,.int .i64 i)],[some [.int .i64 0,.own 2 []],some [.int .i64 n,E]]⟩
def ahF (n:Int) (l:List Ed) (E:AV):St:=⟨[(0,.int .i64 n),(4,.ptr 0 0),(6,.ptr 1 0),(18,.list 2 (fi l)),(19,.int .i64 l.length),(20,.int .i64 l.length),(21,.bool false)],[some [.int .i64 0,.own 2 []],some [.int .i64 n,E]]⟩
theorem Iw (m:Int) (l:List Ed) (hl:l.length<4294967297):∀n i:Nat,i+n=l.length->bg aC 0 (.loop A7) ⟨[(1,.ptr 0 0),(14,.list 2 (fi l)),(15,.int .i64 l.length),(16,.int .i64 i)],[some [.int .i64 m,.list 2 (fi l)]]⟩ =
  if fc m (mw l i) (l.drop i)=0 then some (.exit 0,⟨[(1,.ptr 0 0),(14,.list 2 (fi l)),(15,.int .i64 l.length),(16,.int .i64 l.length),(17,.bool false)],[some [.int .i64 m,.list 2 (fi l)]]⟩) else some (.ret,⟨[(2,.int .i64 (fc m (mw l i) (l.drop i)))],[]⟩)
 |0,i,hi=>by
   have e:i=l.length:=by omega
   subst e;rw[cI];exact bI (by unfold A7; simp[uP,uO,uM,uL,uK,uJ,uI,uH,uG,uF,pw,pq,aJ,aS,bG,cU,dR,aM,aV,aL,ah,aU,bm,cc,bR])
 |n+1,i,hi=>by
   have bQ:i<l.length:=by omega
   have h1:(i:Int)<l.length:=by omega
   have ih:=Iw m l hl n (i+1) (by omega);have hw:=eO (i:=i) (by omega);rw[nu l i bQ] at ih;rw[bH bQ];by_cases ha:l[i].1<0
   ·have e:fc m (mw l i) (l[i]::l.drop (i+1))=6:=by unfold fc; rw[if_pos (.inl ha)]
    rw[e];exact eJ (by unfold A7; simp[uP,uO,uM,uL,uK,uJ,uI,uH,uG,uF,pw,pq,h1,bQ,ha,idx,aJ,aS,bG,cU,dR,aM,aV,aL,ah,aU,bm,cc,bR])
   by_cases hb:l[i].2<=l[i].1
   ·have e:fc m (mw l i) (l[i]::l.drop (i+1))=6:=by unfold fc; rw[if_pos (.inr (.inl hb))]
    rw[e];exact eJ (by unfold A7; simp[uP,uO,uM,uL,uK,uJ,uI,uH,uG,uF,pw,pq,h1,bQ,ha,hb,idx,aJ,aS,bG,cU,dR,aM,aV,aL,ah,aU,bm,cc,bR])
   by_cases hc:m<=l[i].2
   ·have e:fc m (mw l i) (l[i]::l.drop (i+1))=6:=by unfold fc; rw[if_pos (.inr (.inr hc))]
    rw[e];exact eJ (by unfold A7; simp[uP,uO,uM,uL,uK,uJ,uI,uH,uG,uF,pw,pq,h1,bQ,ha,hb,hc,idx,aJ,aS,bG,cU,dR,aM,aV,aL,ah,aU,bm,cc,bR])
   have hn:¬(l[i].1<0\/l[i].2<=l[i].1\/m<=l[i].2):=by omega
   cases i with
   |zero=>
     have e:fc m (mw l 0) (l[0]::l.drop (0+1))=fc m (some l[0]) (l.drop (0+1)):=by
      conv=>lhs; unfold fc
      rw[if_neg hn,tX,if_neg (show ¬He none l[0] from fun h=>h)]
     rw[e];exact (bk (by unfold A7; simp[uP,uO,uM,uL,uK,uJ,uI,uH,uG,uF,pw,pq,h1,bQ,ha,hb,hc,hw,idx,aJ,aS,bG,cU,dR,aM,aV,aL,ah,aU,bm,cc,bR])).trans ih
   |succ j=>
     have hj:j<l.length:=by omega
     have hj1:(j:Int)<l.length:=by omega
     have hp:(0:Int)<(j:Int)+1:=by omega
     have Xa:(0:Int)<=(j:Int)+1:=by omega
     have hw2:=EA (i:=j) (by omega);have h1:(j:Int)+1<l.length:=by omega
     have hw:IntKind.i64.wrap ((j:Int)+1+1)=(j:Int)+1+1:=acL (j:=j+1+1) rfl (by omega);have ho:=Rj l[j] l[j+1];by_cases hd:Gj l[j] l[j+1]
     ·have e:fc m (mw l (j+1)) (l[j+1]::l.drop (j+1+1))=fc m (some l[j+1]) (l.drop (j+1+1)):=by
       conv=>lhs; unfold fc
       rw[if_neg hn,nu l j hj,if_neg (show ¬He (some l[j]) l[j+1] from fun k=>k hd)]
      rw[e];exact (bk (by unfold A7; simp[uP,uO,uM,uL,uK,uJ,uI,uH,uG,uF,pw,pq,h1,bQ,ha,hb,hc,hj,hj1,hp,Xa,hw,hw2,ho,hd,idx,sQM,iQM,aJ,aS,bG,cU,dR,aM,aV,aL,ah,aU,bm,cc,bR])).trans ih
     ·have e:fc m (mw l (j+1)) (l[j+1]::l.drop (j+1+1))=5:=by
       unfold fc;rw[if_neg hn,nu l j hj,if_pos (show He (some l[j]) l[j+1] from hd)]
      rw[e];exact eJ (by unfold A7; simp[uP,uO,uM,uL,uK,uJ,uI,uH,uG,uF,pw,pq,h1,bQ,ha,hb,hc,hj,hj1,hp,Xa,hw2,ho,hd,idx,sQM,iQM,aJ,aS,bG,cU,dR,aM,aV,aL,ah,aU,bm,cc,bR])
theorem L9 (m:Int) (l:List Ed) (hl:l.length<4294967297):bU aC nQr [.agg [.int .i64 m,.list 2 (fi l)]] []=some (.int .i64 (WQ m l),[]):=by
 rw[fK sQr (aF rfl)];have h:=Iw m l hl l.length 0 (by omega);rw[jJ,dc,tX] at h;unfold qQr cQr WQ;by_cases ha:m<0
 ·simp[uP,uO,uM,uL,uK,uJ,uI,uH,uG,uF,pw,pq,ha,aJ,aS,bG,cU,dR,aM,aV,aL,ah,aU,bm,cc,bR]
 by_cases hb:64<m
 ·simp[uP,uO,uM,uL,uK,uJ,uI,uH,uG,uF,pw,pq,ha,hb,aJ,aS,bG,cU,dR,aM,aV,aL,ah,aU,bm,cc,bR]
 rw[if_neg (by omega)];by_cases hc:fc m none l=0
 ·rw[if_pos hc] at h;rw[hc];simp[uP,uO,uM,uL,uK,uJ,uI,uH,uG,uF,pw,pq,ha,hb,h,aJ,aS,bG,cU,dR,aM,aV,aL,ah,aU,bm,cc,bR]
 ·rw[if_neg hc] at h;simp[uP,uO,uM,uL,uK,uJ,uI,uH,uG,uF,pw,pq,ha,hb,h,aJ,aS,bG,cU,dR,aM,aV,aL,ah,aU,bm,cc,bR]
end Go.BmP
