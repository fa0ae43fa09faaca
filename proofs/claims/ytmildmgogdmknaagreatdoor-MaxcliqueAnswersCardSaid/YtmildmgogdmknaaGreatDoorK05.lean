/- What functions of cohesionref03 return: Before, edge, ends, with, Of, Check. -/
import Derived.Test.YtmildmgogdmknaaGreatDoorR02d
set_option linter.unusedSimpArgs false
set_option linter.unusedVariables false
set_option maxRecDepth 100000
set_option maxHeartbeats 4000000
open List renaming drop_eq_getElem_cons → aT, drop_length → bK, drop_zero → bY
open Nat renaming le_of_ble_eq_true → ah
namespace Go.BmP
open Go.Am Go.Bm
theorem XJ (a b:Ed):bp aq nQ8 [.agg [.int .i64 a.1,.int .i64 a.2],.agg [.int .i64 b.1,.int .i64 b.2]] []=some (.bool (decide (KY a b)),[]):=by
 rw[pM sQ8 (ah rfl)];unfold qQ8 cQ8 KY;by_cases h1:a.1<b.1
 ·simp[Tw,Tv,h1,aO,bk,bf]
 ·by_cases h2:a.1=b.1
  ·by_cases h3:a.2<b.2
   ·simp[Tw,Tv,h2,h3,aO,bk,bf]
   ·simp[Tw,Tv,h2,h3,aO,bk,bf]
  ·simp[Tw,Tv,h1,h2,aO,bk,bf]
theorem afg (u v:Int):bp aq nQ3 [.int .i64 u,.int .i64 v] []=some (.agg [.int .i64 (rE u v).1,.int .i64 (rE u v).2],[]):=by
 rw[pM sQ3 (ah rfl)];unfold qQ3 cQ3 rE;simp[ai3,ai2,aO,bk,bf]
/- What graph.Check and what it calls returns. -/
theorem akI (a b:Int):bp aq ML [.list 1 [.int .i64 a,.int .i64 b]] []=some (.int .i64 (if a=0 then b else a),[]):=by
 rw[pM sQb7 (ah rfl)];have t2:IntKind.i64.wrap 2=2:=by decide
 have l3:aW aq 0 (.loop xc) ⟨[(3,.int .i64 0),(6,.list 1 [.int .i64 a,.int .i64 b]),(7,.int .i64 2),(8,.int .i64 2)],[]⟩=some (.exit 0,⟨[(3,.int .i64 0),(6,.list 1 [.int .i64 a,.int .i64 b]),(7,.int .i64 2),(8,.int .i64 2),(9,.bool false)],[]⟩):=
  bq (by unfold xc; simp[sU,sT,sS,sR,sQ])
 have l2:aW aq 0 (.loop xc) ⟨[(3,.int .i64 0),(6,.list 1 [.int .i64 a,.int .i64 b]),(7,.int .i64 2),(8,.int .i64 1)],[]⟩=if b=0 then some (.exit 0,⟨[(3,.int .i64 0),(6,.list 1 [.int .i64 a,.int .i64 b]),(7,.int .i64 2),(8,.int .i64 2),(9,.bool false)],[]⟩) else some (.ret,⟨[(2,.int .i64 b)],[]⟩):=by
  by_cases hb:b=0
  ·subst hb;rw[if_pos rfl];exact (aS (by unfold xc; simp[sU,sT,sS,sR,sQ,idx,t2])).trans l3
  ·rw[if_neg hb];exact dp (by unfold xc; simp[sU,sT,sS,sR,sQ,hb,idx])
 have l1:aW aq 0 (.loop xc) ⟨[(3,.int .i64 0),(6,.list 1 [.int .i64 a,.int .i64 b]),(7,.int .i64 2),(8,.int .i64 0)],[]⟩=if a=0 then (if b=0 then some (.exit 0,⟨[(3,.int .i64 0),(6,.list 1 [.int .i64 a,.int .i64 b]),(7,.int .i64 2),(8,.int .i64 2),(9,.bool false)],[]⟩) else some (.ret,⟨[(2,.int .i64 b)],[]⟩)) else some (.ret,⟨[(2,.int .i64 a)],[]⟩):=by
  by_cases ha:a=0
  ·subst ha;rw[if_pos rfl];exact (aS (by unfold xc; simp[sU,sT,sS,sR,sQ,idx])).trans l2
  ·rw[if_neg ha];exact dp (by unfold xc; simp[sU,sT,sS,sR,sQ,ha,idx])
 clear l2 l3;unfold qQb7 cQb7;by_cases ha:a=0
 ·subst ha;rw[if_pos rfl] at l1;by_cases hb:b=0
  ·subst hb;rw[if_pos rfl] at l1;simp[sX,sW,sV,sP,l1,bk,bf]
  ·rw[if_neg hb] at l1;simp[sX,sW,sV,sP,l1,bk,bf]
 ·rw[if_neg ha] at l1;simp[sX,sW,sV,sP,l1,ha,bk,bf]
def ordI (a b:Ed):Int:=if Vu a.1 b.1=0 then Vu a.2 b.2 else Vu a.1 b.1
theorem ZH (a b:Ed):0<=ordI a b ↔ ¬KY a b:=by
 unfold ordI Vu KY;by_cases h1:a.1<b.1
 ·simp[h1]
 ·by_cases h2:b.1<a.1
  ·have:¬a.1=b.1:=by omega
   simp[h1,h2,this]
  ·have:a.1=b.1:=by omega
   simp only[this,true_and];by_cases h3:a.2<b.2
   ·simp[h3]
   ·by_cases h4:b.2<a.2<;>simp[h3,h4]
theorem abw (a b:Ed):bp aq nQ4 [.agg [.int .i64 a.1,.int .i64 a.2],.agg [.int .i64 b.1,.int .i64 b.2]] []=some (.int .i64 (ordI a b),[]):=by
 rw[pM sQ4 (ah rfl)];have c1:=Vt a.1 b.1;have c2:=Vt a.2 b.2;have c3:=akI (Vu a.1 b.1) (Vu a.2 b.2);unfold qQ4 cQ4 ordI;simp[ai1,ai0,c1,c2,c3,sQb8,iQb8,sQb7,iQb7,aO,bk,bf]
def nH (l:List Ed) (i:Nat):Option Ed:=if i=0 then none else l[i-1]?
theorem wZ (l:List Ed):nH l 0=none:=rfl
theorem oO (l:List Ed) (i:Nat) (h:i<l.length):nH l (i+1)=some l[i]:=by simp[nH,h]
theorem Ph (m:Int) (l:List Ed) (hl:l.length<4294967297):∀n i:Nat,i+n=l.length->aW aq 0 (.loop EX) ⟨[(1,.ptr 0 0),(14,.list 2 (bU l)),(15,.int .i64 l.length),(16,.int .i64 i)],[some [.int .i64 m,.list 2 (bU l)]]⟩ =
  if fX m (nH l i) (l.drop i)=0 then some (.exit 0,⟨[(1,.ptr 0 0),(14,.list 2 (bU l)),(15,.int .i64 l.length),(16,.int .i64 l.length),(17,.bool false)],[some [.int .i64 m,.list 2 (bU l)]]⟩) else some (.ret,⟨[(2,.int .i64 (fX m (nH l i) (l.drop i)))],[]⟩)
 |0,i,hi=>by
   have e:i=l.length:=by omega
   subst e;rw[bK];exact bq (by unfold EX; simp[xG,xF,xE,xD,xC,xB,qq])
 |n+1,i,hi=>by
   have bD:i<l.length:=by omega
   have h1:(i:Int)<l.length:=by omega
   have ih:=Ph m l hl n (i+1) (by omega);have hw:=dM (i:=i) (by omega);rw[oO l i bD] at ih;rw[aT bD];by_cases ha:l[i].1<0
   ·have e:fX m (nH l i) (l[i]::l.drop (i+1))=6:=by unfold fX; rw[if_pos (.inl ha)]
    rw[e];exact dp (by unfold EX; simp[xG,xF,xE,xD,xC,xB,qq,h1,bD,ha,idx,aO,az,bw,bW])
   by_cases hb:l[i].2<=l[i].1
   ·have e:fX m (nH l i) (l[i]::l.drop (i+1))=6:=by unfold fX; rw[if_pos (.inr (.inl hb))]
    rw[e];exact dp (by unfold EX; simp[xG,xF,xE,xD,xC,xB,qq,h1,bD,ha,hb,idx,aO,az,bw,bW])
   by_cases hc:m<=l[i].2
   ·have e:fX m (nH l i) (l[i]::l.drop (i+1))=6:=by unfold fX; rw[if_pos (.inr (.inr hc))]
    rw[e];exact dp (by unfold EX; simp[xG,xF,xE,xD,xC,xB,qq,h1,bD,ha,hb,hc,idx,aO,az,bw,bW])
   have hn:¬(l[i].1<0\/l[i].2<=l[i].1\/m<=l[i].2):=by omega
   cases i with
   |zero=>
     have e:fX m (nH l 0) (l[0]::l.drop (0+1))=fX m (some l[0]) (l.drop (0+1)):=by
      conv=>lhs; unfold fX
      rw[if_neg hn,wZ,if_neg (show ¬L6 none l[0] from fun h=>h)]
     rw[e];exact (aS (by unfold EX; simp[xG,xF,xE,xD,xC,xB,qq,bD,ha,hb,hc,idx,aO,az,bw,bW])).trans ih
   |succ j=>
     have hj:j<l.length:=by omega
     have Xb:(j:Int)<l.length:=by omega
     have hp:(0:Int)<(j:Int)+1:=by omega
     have IL:(0:Int)<=(j:Int)+1:=by omega
     have hw2:=yR (i:=j) (by omega);have h1:(j:Int)+1<l.length:=by omega
     have hw:IntKind.i64.wrap ((j:Int)+1+1)=(j:Int)+1+1:=Nl (j:=j+1+1) rfl (by omega);have ho:=abw l[j] l[j+1];by_cases hd:0<=ordI l[j] l[j+1]
     ·have e:fX m (nH l (j+1)) (l[j+1]::l.drop (j+1+1))=5:=by
       unfold fX;rw[if_neg hn,oO l j hj,if_pos (show L6 (some l[j]) l[j+1] from (ZH _ _).1 hd)]
      rw[e];exact dp (by unfold EX; simp[xG,xF,xE,xD,xC,xB,qq,h1,bD,ha,hb,hc,hj,Xb,hp,IL,hw2,ho,hd,idx,sQ4,iQ4,aO,az,bw,bW])
     ·have hlt':KY l[j] l[j+1]:=by
       apply Decidable.not_not.1;exact fun k=>hd ((ZH _ _).2 k)
      have e:fX m (nH l (j+1)) (l[j+1]::l.drop (j+1+1))=fX m (some l[j+1]) (l.drop (j+1+1)):=by
       conv=>lhs; unfold fX
       rw[if_neg hn,oO l j hj,if_neg (show ¬L6 (some l[j]) l[j+1] from fun k=>k hlt')]
      rw[e];exact (aS (by unfold EX; simp[xG,xF,xE,xD,xC,xB,qq,h1,bD,ha,hb,hc,hj,Xb,hp,IL,hw,hw2,ho,hd,idx,sQ4,iQ4,aO,az,bw,bW])).trans ih
theorem im (m:Int) (l:List Ed) (hl:l.length<4294967297):bp aq TP [.agg [.int .i64 m,.list 2 (bU l)]] []=some (.int .i64 (tt m l),[]):=by
 rw[pM Mw (ah rfl)];have h:=Ph m l hl l.length 0 (by omega);rw[fi,bY,wZ] at h;unfold qQy cQy tt;by_cases ha:m<0
 ·simp[xK,xJ,xI,xH,qp,ha,aO,bk,bf]
 by_cases hb:64<m
 ·simp[xK,xJ,xI,xH,qp,ha,hb,aO,bk,bf]
 rw[if_neg (by omega)];by_cases hc:fX m none l=0
 ·rw[if_pos hc] at h;rw[hc];simp[xK,xJ,xI,xH,qp,ha,hb,h,aO,az,bk,bf]
 ·rw[if_neg hc] at h;simp[xK,xJ,xI,xH,qp,ha,hb,h,aO,az,bk,bf]
/- What functions of cohesionref03 return: Of, Check, Find. -/
theorem NC (m:Int) (l:List Ed) (hl:l.length<4294967297):∀n i:Nat,i+n=l.length->aW aq 0 (.loop EY) ⟨[(1,.ptr 0 0),(14,.list 2 (bU l)),(15,.int .i64 l.length),(16,.int .i64 i)],[some [.int .i64 m,.list 2 (bU l)]]⟩ =
  if fX m (nH l i) (l.drop i)=0 then some (.exit 0,⟨[(1,.ptr 0 0),(14,.list 2 (bU l)),(15,.int .i64 l.length),(16,.int .i64 l.length),(17,.bool false)],[some [.int .i64 m,.list 2 (bU l)]]⟩) else some (.ret,⟨[(2,.int .i64 (fX m (nH l i) (l.drop i)))],[]⟩)
 |0,i,hi=>by
   have e:i=l.length:=by omega
   subst e;rw[bK];exact bq (by unfold EY; simp[yz,yy,yx,yw,yu,yt,rD])
 |n+1,i,hi=>by
   have bD:i<l.length:=by omega
   have h1:(i:Int)<l.length:=by omega
   have ih:=NC m l hl n (i+1) (by omega);have hw:=dM (i:=i) (by omega);rw[oO l i bD] at ih;rw[aT bD];by_cases ha:l[i].1<0
   ·have e:fX m (nH l i) (l[i]::l.drop (i+1))=6:=by unfold fX; rw[if_pos (.inl ha)]
    rw[e];exact dp (by unfold EY; simp[yz,yy,yx,yw,yu,yt,rD,h1,bD,ha,idx,aO,az,bw,bW])
   by_cases hb:l[i].2<=l[i].1
   ·have e:fX m (nH l i) (l[i]::l.drop (i+1))=6:=by unfold fX; rw[if_pos (.inr (.inl hb))]
    rw[e];exact dp (by unfold EY; simp[yz,yy,yx,yw,yu,yt,rD,h1,bD,ha,hb,idx,aO,az,bw,bW])
   by_cases hc:m<=l[i].2
   ·have e:fX m (nH l i) (l[i]::l.drop (i+1))=6:=by unfold fX; rw[if_pos (.inr (.inr hc))]
    rw[e];exact dp (by unfold EY; simp[yz,yy,yx,yw,yu,yt,rD,h1,bD,ha,hb,hc,idx,aO,az,bw,bW])
   have hn:¬(l[i].1<0\/l[i].2<=l[i].1\/m<=l[i].2):=by omega
   cases i with
   |zero=>
     have e:fX m (nH l 0) (l[0]::l.drop (0+1))=fX m (some l[0]) (l.drop (0+1)):=by
      conv=>lhs; unfold fX
      rw[if_neg hn,wZ,if_neg (show ¬L6 none l[0] from fun h=>h)]
     rw[e];exact (aS (by unfold EY; simp[yz,yy,yx,yw,yu,yt,rD,bD,ha,hb,hc,idx,aO,az,bw,bW])).trans ih
   |succ j=>
     have hj:j<l.length:=by omega
     have Xb:(j:Int)<l.length:=by omega
     have hp:(0:Int)<(j:Int)+1:=by omega
     have IL:(0:Int)<=(j:Int)+1:=by omega
     have hw2:=yR (i:=j) (by omega);have h1:(j:Int)+1<l.length:=by omega
     have hw:IntKind.i64.wrap ((j:Int)+1+1)=(j:Int)+1+1:=Nl (j:=j+1+1) rfl (by omega);have ho:=XJ l[j] l[j+1];by_cases hd:KY l[j] l[j+1]
     ·have e:fX m (nH l (j+1)) (l[j+1]::l.drop (j+1+1))=fX m (some l[j+1]) (l.drop (j+1+1)):=by
       conv=>lhs; unfold fX
       rw[if_neg hn,oO l j hj,if_neg (show ¬L6 (some l[j]) l[j+1] from fun k=>k hd)]
      rw[e];exact (aS (by unfold EY; simp[yz,yy,yx,yw,yu,yt,rD,h1,bD,ha,hb,hc,hj,Xb,hp,IL,hw,hw2,ho,hd,idx,sQ8,iQ8,aO,az,bw,bW])).trans ih
     ·have e:fX m (nH l (j+1)) (l[j+1]::l.drop (j+1+1))=5:=by
       unfold fX;rw[if_neg hn,oO l j hj,if_pos (show L6 (some l[j]) l[j+1] from hd)]
      rw[e];exact dp (by unfold EY; simp[yz,yy,yx,yw,yu,yt,rD,h1,bD,ha,hb,hc,hj,Xb,hp,IL,hw2,ho,hd,idx,sQ8,iQ8,aO,az,bw,bW])
theorem iM (m:Int) (l:List Ed) (hl:l.length<4294967297):bp aq Sg [.agg [.int .i64 m,.list 2 (bU l)]] []=some (.int .i64 (tt m l),[]):=by
 rw[pM FD (ah rfl)];have h:=NC m l hl l.length 0 (by omega);rw[fi,bY,wZ] at h;unfold qQC cQC tt;by_cases ha:m<0
 ·simp[yD,yC,yB,yA,rC,ha,aO,bk,bf]
 by_cases hb:64<m
 ·simp[yD,yC,yB,yA,rC,ha,hb,aO,bk,bf]
 rw[if_neg (by omega)];by_cases hc:fX m none l=0
 ·rw[if_pos hc] at h;rw[hc];simp[yD,yC,yB,yA,rC,ha,hb,h,aO,az,bk,bf]
 ·rw[if_neg hc] at h;simp[yD,yC,yB,yA,rC,ha,hb,h,aO,az,bk,bf]
theorem Pr (x:Ed) (u v:Int) (hx:rE u v=x) (l:List Ed) (hl:l.length<4294967297):∀n i:Nat,i+n=l.length->aW aq 0 (.loop Gj) ⟨[(1,.int .i64 u),(2,.int .i64 v),(13,.list 2 (bU l)),(14,.int .i64 l.length),(15,.int .i64 i)],[]⟩ =
  if x∈l.drop i then some (.ret,⟨[(6,.int .i64 (i+(l.drop i).idxOf x:Nat))],[]⟩) else some (.exit 0,⟨[(1,.int .i64 u),(2,.int .i64 v),(13,.list 2 (bU l)),(14,.int .i64 l.length),(15,.int .i64 l.length),(16,.bool false)],[]⟩)
 |0,i,hi=>by
   have e:i=l.length:=by omega
   subst e;rw[bK,if_neg (by simp)];exact bq (by unfold Gj; simp[CF,CE,CD,CC,CB])
 |n+1,i,hi=>by
   have bD:i<l.length:=by omega
   have h1:(i:Int)<l.length:=by omega
   have ih:=Pr x u v hx l hl n (i+1) (by omega);have hw:=dM (i:=i) (by omega);have hg:=afg u v;rw[hx] at hg;rw[aT bD];by_cases he:l[i]=x
   ·have W5:l[i].1=x.1:=by rw[he]
    have hx2:l[i].2=x.2:=by rw[he]
    rw[if_pos (by rw[he]; exact List.mem_cons_self),show (l[i]::l.drop (i+1)).idxOf x=0 by rw[he]; exact List.idxOf_cons_self];exact dp (by unfold Gj; simp[CF,CE,CD,CC,CB,h1,bD,hg,W5,hx2,idx,sQ3,iQ3,aO,az,bw,bW])
   ·have he2:¬x=l[i]:=fun e=>he e.symm;rw[show (l[i]::l.drop (i+1)).idxOf x=(l.drop (i+1)).idxOf x+1 by simp only[List.idxOf_cons]; rw[show (l[i] == x)=false by simpa using he]; rfl,show i+((l.drop (i+1)).idxOf x+1)=i+1+(l.drop (i+1)).idxOf x by omega];simp only[List.mem_cons,he2,false_or];by_cases W5:l[i].1=x.1
    ·have hx2:¬l[i].2=x.2:=fun e=>he (Prod.ext W5 e);exact (aS (by unfold Gj; simp[CF,CE,CD,CC,CB,h1,bD,hg,W5,hx2,hw,idx,sQ3,iQ3,aO,az,bw,bW])).trans ih
    ·exact (aS (by unfold Gj; simp[CF,CE,CD,CC,CB,h1,bD,hg,W5,hw,idx,sQ3,iQ3,aO,az,bw,bW])).trans ih
theorem afa (m:Int) (l:List Ed) (hl:l.length<4294967297) (hG:jh m l) (u v:Int):bp aq Ic [.agg [.int .i64 m,.list 2 (bU l)],.int .i64 u,.int .i64 v] []=some (.int .i64 (if rE u v∈l then (l.idxOf (rE u v):Int) else -1),[]):=by
 rw[pM sQb6 (ah rfl)];have hc:=iM m l hl;rw[eB.2 hG] at hc;have h:=Pr (rE u v) u v rfl l hl l.length 0 (by omega);rw[fi,bY,Nat.zero_add] at h;unfold qQb6 cQb6;by_cases hx:rE u v∈l
 ·rw[if_pos hx] at h;simp[CJ,CI,CH,CG,CA,h,hc,hx,FD,Gs,aO,az,bk,bf]
 ·rw[if_neg hx] at h;simp[CJ,CI,CH,CG,CA,h,hc,hx,FD,Gs,aO,az,bk,bf]
end Go.BmP
