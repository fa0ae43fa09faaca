/- What functions of cohesionref03 return: Before, edge, ends, with, Of, Check. -/
import Derived.Test.YtbnheahpdodmjaaGreatDoorR02d
set_option linter.unusedSimpArgs false
set_option linter.unusedVariables false
set_option maxRecDepth 100000
set_option maxHeartbeats 4000000
open List renaming drop_eq_getElem_cons → bg, drop_length → bY, drop_zero → ct
open Nat renaming le_of_ble_eq_true → aB
namespace Go.BmP
open Go.Am Go.Bm
theorem Xk (a b:Ed):bu an nQ6 [.agg [.int .i64 a.1,.int .i64 a.2],.agg [.int .i64 b.1,.int .i64 b.2]] []=some (.bool (decide (KZ a b)),[]):=by
 rw[eO sQ6 (aB rfl)];unfold qQ6 cQ6 KZ;by_cases h1:a.1<b.1
 ·simp[Sd,Sc,h1,aJ,aL,bz,cM,dG,aI,aP,aH,ah,aN,aZ,bM,bI]
 ·by_cases h2:a.1=b.1
  ·by_cases h3:a.2<b.2
   ·simp[Sd,Sc,h1,h2,h3,aJ,aL,bz,cM,dG,aI,aP,aH,ah,aN,aZ,bM,bI]
   ·simp[Sd,Sc,h1,h2,h3,aJ,aL,bz,cM,dG,aI,aP,aH,ah,aN,aZ,bM,bI]
  ·simp[Sd,Sc,h1,h2,aJ,aL,bz,cM,dG,aI,aP,aH,ah,aN,aZ,bM,bI]
/- What graph.Check and what it calls returns. -/
theorem VY (a b:Int):bu an Og [.list 1 [.int .i64 a,.int .i64 b]] []=some (.int .i64 (if a=0 then b else a),[]):=by
 rw[eO sQY (aB rfl)];have t2:IntKind.i64.wrap 2=2:=by decide
 have l3:aY an 0 (.loop qI) ⟨[(3,.int .i64 0),(6,.list 1 [.int .i64 a,.int .i64 b]),(7,.int .i64 2),(8,.int .i64 2)],[]⟩=some (.exit 0,⟨[(3,.int .i64 0),(6,.list 1 [.int .i64 a,.int .i64 b]),(7,.int .i64 2),(8,.int .i64 2),(9,.bool false)],[]⟩):=
  bt (by unfold qI; simp[oO,oN,oM,oL,oK,oJ,oI,oH,oG,aJ,aL,bz,cM,dG,aI,aP,aH,ah,aN,aZ,bM,bI])
 have l2:aY an 0 (.loop qI) ⟨[(3,.int .i64 0),(6,.list 1 [.int .i64 a,.int .i64 b]),(7,.int .i64 2),(8,.int .i64 1)],[]⟩=if b=0 then some (.exit 0,⟨[(3,.int .i64 0),(6,.list 1 [.int .i64 a,.int .i64 b]),(7,.int .i64 2),(8,.int .i64 2),(9,.bool false)],[]⟩) else some (.ret,⟨[(2,.int .i64 b)],[]⟩):=by
  by_cases hb:b=0
  ·subst hb;rw[if_pos rfl];exact (aV (by unfold qI; simp[oO,oN,oM,oL,oK,oJ,oI,oH,oG,idx,t2,aJ,aL,bz,cM,dG,aI,aP,aH,ah,aN,aZ,bM,bI])).trans l3
  ·rw[if_neg hb];exact cZ (by unfold qI; simp[oO,oN,oM,oL,oK,oJ,oI,oH,oG,hb,idx,aJ,aL,bz,cM,dG,aI,aP,aH,ah,aN,aZ,bM,bI])
 have l1:aY an 0 (.loop qI) ⟨[(3,.int .i64 0),(6,.list 1 [.int .i64 a,.int .i64 b]),(7,.int .i64 2),(8,.int .i64 0)],[]⟩=if a=0 then (if b=0 then some (.exit 0,⟨[(3,.int .i64 0),(6,.list 1 [.int .i64 a,.int .i64 b]),(7,.int .i64 2),(8,.int .i64 2),(9,.bool false)],[]⟩) else some (.ret,⟨[(2,.int .i64 b)],[]⟩)) else some (.ret,⟨[(2,.int .i64 a)],[]⟩):=by
  by_cases ha:a=0
  ·subst ha;rw[if_pos rfl];exact (aV (by unfold qI; simp[oO,oN,oM,oL,oK,oJ,oI,oH,oG,idx,aJ,aL,bz,cM,dG,aI,aP,aH,ah,aN,aZ,bM,bI])).trans l2
  ·rw[if_neg ha];exact cZ (by unfold qI; simp[oO,oN,oM,oL,oK,oJ,oI,oH,oG,ha,idx,aJ,aL,bz,cM,dG,aI,aP,aH,ah,aN,aZ,bM,bI])
 clear l2 l3;unfold qQY cQY;by_cases ha:a=0
 ·subst ha;rw[if_pos rfl] at l1;by_cases hb:b=0
  ·subst hb;rw[if_pos rfl] at l1;simp[oO,oN,oM,oL,oK,oJ,oI,oH,oG,l1,aJ,aL,bz,cM,dG,aI,aP,aH,ah,aN,aZ,bM,bI]
  ·rw[if_neg hb] at l1;simp[oO,oN,oM,oL,oK,oJ,oI,oH,oG,l1,hb,aJ,aL,bz,cM,dG,aI,aP,aH,ah,aN,aZ,bM,bI]
 ·rw[if_neg ha] at l1;simp[oO,oN,oM,oL,oK,oJ,oI,oH,oG,l1,ha,aJ,aL,bz,cM,dG,aI,aP,aH,ah,aN,aZ,bM,bI]
def ordI (a b:Ed):Int:=if tH a.1 b.1=0 then tH a.2 b.2 else tH a.1 b.1
theorem ZY (a b:Ed):0<=ordI a b ↔ ¬KZ a b:=by
 unfold ordI tH KZ;by_cases h1:a.1<b.1
 ·simp[h1]
 ·by_cases h2:b.1<a.1
  ·have:¬a.1=b.1:=by omega
   simp[h1,h2,this]
  ·have:a.1=b.1:=by omega
   simp only[h1,h2,this,if_false,if_true,true_and,false_or];by_cases h3:a.2<b.2
   ·simp[h3]
   ·by_cases h4:b.2<a.2<;>simp[h3,h4]
theorem abF (a b:Ed):bu an Wk [.agg [.int .i64 a.1,.int .i64 a.2],.agg [.int .i64 b.1,.int .i64 b.2]] []=some (.int .i64 (ordI a b),[]):=by
 rw[eO sQa0 (aB rfl)];have c1:=LS a.1 b.1;have c2:=LS a.2 b.2;have c3:=VY (tH a.1 b.1) (tH a.2 b.2);unfold qQa0 cQa0 ordI;simp[adi,adh,c1,c2,c3,sQZ,iQZ,sQY,iQY,aJ,aL,bz,cM,dG,aI,aP,aH,ah,aN,aZ,bM,bI]
def oP (l:List Ed) (i:Nat):Option Ed:=if i=0 then none else l[i-1]?
theorem wE (l:List Ed):oP l 0=none:=rfl
theorem pK (l:List Ed) (i:Nat) (h:i<l.length):oP l (i+1)=some l[i]:=by simp[oP,h]
theorem OH (m:Int) (l:List Ed) (hl:l.length<4294967297):∀n i:Nat,i+n=l.length->aY an 0 (.loop Er) ⟨[(1,.ptr 0 0),(14,.list 2 (dA l)),(15,.int .i64 l.length),(16,.int .i64 i)],[some [.int .i64 m,.list 2 (dA l)]]⟩ =
  if fD m (oP l i) (l.drop i)=0 then some (.exit 0,⟨[(1,.ptr 0 0),(14,.list 2 (dA l)),(15,.int .i64 l.length),(16,.int .i64 l.length),(17,.bool false)],[some [.int .i64 m,.list 2 (dA l)]]⟩) else some (.ret,⟨[(2,.int .i64 (fD m (oP l i) (l.drop i)))],[]⟩)
 |0,i,hi=>by
   have e:i=l.length:=by omega
   subst e;rw[bY];exact bt (by unfold Er; simp[xP,xO,xN,xM,xL,xK,xJ,xI,xH,xG,rO,rN,aJ,aL,bz,cM,dG,aI,aP,aH,ah,aN,aZ,bM,bI])
 |n+1,i,hi=>by
   have bF:i<l.length:=by omega
   have h1:(i:Int)<l.length:=by omega
   have ih:=OH m l hl n (i+1) (by omega);have hw:=dO (i:=i) (by omega);rw[pK l i bF] at ih;rw[bg bF];by_cases ha:l[i].1<0
   ·have e:fD m (oP l i) (l[i]::l.drop (i+1))=6:=by unfold fD; rw[if_pos (.inl ha)]
    rw[e];exact cZ (by unfold Er; simp[xP,xO,xN,xM,xL,xK,xJ,xI,xH,xG,rO,rN,h1,bF,ha,idx,aJ,aL,bz,cM,dG,aI,aP,aH,ah,aN,aZ,bM,bI])
   by_cases hb:l[i].2<=l[i].1
   ·have e:fD m (oP l i) (l[i]::l.drop (i+1))=6:=by unfold fD; rw[if_pos (.inr (.inl hb))]
    rw[e];exact cZ (by unfold Er; simp[xP,xO,xN,xM,xL,xK,xJ,xI,xH,xG,rO,rN,h1,bF,ha,hb,idx,aJ,aL,bz,cM,dG,aI,aP,aH,ah,aN,aZ,bM,bI])
   by_cases hc:m<=l[i].2
   ·have e:fD m (oP l i) (l[i]::l.drop (i+1))=6:=by unfold fD; rw[if_pos (.inr (.inr hc))]
    rw[e];exact cZ (by unfold Er; simp[xP,xO,xN,xM,xL,xK,xJ,xI,xH,xG,rO,rN,h1,bF,ha,hb,hc,idx,aJ,aL,bz,cM,dG,aI,aP,aH,ah,aN,aZ,bM,bI])
   have hn:¬(l[i].1<0\/l[i].2<=l[i].1\/m<=l[i].2):=by omega
   cases i with
   |zero=>
     have e:fD m (oP l 0) (l[0]::l.drop (0+1))=fD m (some l[0]) (l.drop (0+1)):=by
      conv=>lhs; unfold fD
      rw[if_neg hn,wE,if_neg (show ¬Me none l[0] from fun h=>h)]
     rw[e];exact (aV (by unfold Er; simp[xP,xO,xN,xM,xL,xK,xJ,xI,xH,xG,rO,rN,h1,bF,ha,hb,hc,hw,idx,aJ,aL,bz,cM,dG,aI,aP,aH,ah,aN,aZ,bM,bI])).trans ih
   |succ j=>
     have hj:j<l.length:=by omega
     have U8:(j:Int)<l.length:=by omega
     have hp:(0:Int)<(j:Int)+1:=by omega
     have OB:(0:Int)<=(j:Int)+1:=by omega
     have U5:=yL (i:=j) (by omega);have h1:(j:Int)+1<l.length:=by omega
     have hw:IntKind.i64.wrap ((j:Int)+1+1)=(j:Int)+1+1:=Nf (j:=j+1+1) rfl (by omega);have ho:=abF l[j] l[j+1];by_cases hd:0<=ordI l[j] l[j+1]
     ·have e:fD m (oP l (j+1)) (l[j+1]::l.drop (j+1+1))=5:=by
       unfold fD;rw[if_neg hn,pK l j hj,if_pos (show Me (some l[j]) l[j+1] from (ZY _ _).1 hd)]
      rw[e];exact cZ (by unfold Er; simp[xP,xO,xN,xM,xL,xK,xJ,xI,xH,xG,rO,rN,h1,bF,ha,hb,hc,hj,U8,hp,OB,U5,ho,hd,idx,sQa0,iQa0,aJ,aL,bz,cM,dG,aI,aP,aH,ah,aN,aZ,bM,bI])
     ·have hlt':KZ l[j] l[j+1]:=by
       apply Decidable.not_not.1;exact fun k=>hd ((ZY _ _).2 k)
      have e:fD m (oP l (j+1)) (l[j+1]::l.drop (j+1+1))=fD m (some l[j+1]) (l.drop (j+1+1)):=by
       conv=>lhs; unfold fD
       rw[if_neg hn,pK l j hj,if_neg (show ¬Me (some l[j]) l[j+1] from fun k=>k hlt')]
      rw[e];exact (aV (by unfold Er; simp[xP,xO,xN,xM,xL,xK,xJ,xI,xH,xG,rO,rN,h1,bF,ha,hb,hc,hj,U8,hp,OB,hw,U5,ho,hd,idx,sQa0,iQa0,aJ,aL,bz,cM,dG,aI,aP,aH,ah,aN,aZ,bM,bI])).trans ih
theorem ae2 (m:Int) (l:List Ed) (hl:l.length<4294967297):bu an nQT [.agg [.int .i64 m,.list 2 (dA l)]] []=some (.int .i64 (chkG m l),[]):=by
 rw[eO sQT (aB rfl)];have h:=OH m l hl l.length 0 (by omega);rw[fU,ct,wE] at h;unfold qQT cQT chkG;by_cases ha:m<0
 ·simp[xP,xO,xN,xM,xL,xK,xJ,xI,xH,xG,rO,rN,ha,aJ,aL,bz,cM,dG,aI,aP,aH,ah,aN,aZ,bM,bI]
 by_cases hb:64<m
 ·simp[xP,xO,xN,xM,xL,xK,xJ,xI,xH,xG,rO,rN,ha,hb,aJ,aL,bz,cM,dG,aI,aP,aH,ah,aN,aZ,bM,bI]
 rw[if_neg (by omega)];by_cases hc:fD m none l=0
 ·rw[if_pos hc] at h;rw[hc];simp[xP,xO,xN,xM,xL,xK,xJ,xI,xH,xG,rO,rN,ha,hb,h,aJ,aL,bz,cM,dG,aI,aP,aH,ah,aN,aZ,bM,bI]
 ·rw[if_neg hc] at h;simp[xP,xO,xN,xM,xL,xK,xJ,xI,xH,xG,rO,rN,ha,hb,h,aJ,aL,bz,cM,dG,aI,aP,aH,ah,aN,aZ,bM,bI]
/- What functions of cohesionref03 return: Of, Check, Find. -/
def ofSt (n:Int) (l:List Ed) (E:AV) (i:Int):St:=⟨[(0,.int .i64 n),(4,.ptr 0 0),(6,.ptr 1 0),(18,.list 2 (dA l)),(19,.int .i64 l.length),(20,.int .i64 i)],[some [.int .i64 0,.own 2 []],some [.int .i64 n,E]]⟩
def amU (n:Int) (l:List Ed) (E:AV):St:=⟨[(0,.int .i64 n),(4,.ptr 0 0),(6,.ptr 1 0),(18,.list 2 (dA l)),(19,.int .i64 l.length),(20,.int .i64 l.length),(21,.bool false)],[some [.int .i64 0,.own 2 []],some [.int .i64 n,E]]⟩
theorem Ny (m:Int) (l:List Ed) (hl:l.length<4294967297):∀n i:Nat,i+n=l.length->aY an 0 (.loop Eu) ⟨[(1,.ptr 0 0),(14,.list 2 (dA l)),(15,.int .i64 l.length),(16,.int .i64 i)],[some [.int .i64 m,.list 2 (dA l)]]⟩ =
  if fD m (oP l i) (l.drop i)=0 then some (.exit 0,⟨[(1,.ptr 0 0),(14,.list 2 (dA l)),(15,.int .i64 l.length),(16,.int .i64 l.length),(17,.bool false)],[some [.int .i64 m,.list 2 (dA l)]]⟩) else some (.ret,⟨[(2,.int .i64 (fD m (oP l i) (l.drop i)))],[]⟩)
 |0,i,hi=>by
   have e:i=l.length:=by omega
   subst e;rw[bY];exact bt (by unfold Eu; simp[xZ,xY,xX,xW,xV,xU,xT,xS,xR,xQ,rQ,rP,aJ,aL,bz,cM,dG,aI,aP,aH,ah,aN,aZ,bM,bI])
 |n+1,i,hi=>by
   have bF:i<l.length:=by omega
   have h1:(i:Int)<l.length:=by omega
   have ih:=Ny m l hl n (i+1) (by omega);have hw:=dO (i:=i) (by omega);rw[pK l i bF] at ih;rw[bg bF];by_cases ha:l[i].1<0
   ·have e:fD m (oP l i) (l[i]::l.drop (i+1))=6:=by unfold fD; rw[if_pos (.inl ha)]
    rw[e];exact cZ (by unfold Eu; simp[xZ,xY,xX,xW,xV,xU,xT,xS,xR,xQ,rQ,rP,h1,bF,ha,idx,aJ,aL,bz,cM,dG,aI,aP,aH,ah,aN,aZ,bM,bI])
   by_cases hb:l[i].2<=l[i].1
   ·have e:fD m (oP l i) (l[i]::l.drop (i+1))=6:=by unfold fD; rw[if_pos (.inr (.inl hb))]
    rw[e];exact cZ (by unfold Eu; simp[xZ,xY,xX,xW,xV,xU,xT,xS,xR,xQ,rQ,rP,h1,bF,ha,hb,idx,aJ,aL,bz,cM,dG,aI,aP,aH,ah,aN,aZ,bM,bI])
   by_cases hc:m<=l[i].2
   ·have e:fD m (oP l i) (l[i]::l.drop (i+1))=6:=by unfold fD; rw[if_pos (.inr (.inr hc))]
    rw[e];exact cZ (by unfold Eu; simp[xZ,xY,xX,xW,xV,xU,xT,xS,xR,xQ,rQ,rP,h1,bF,ha,hb,hc,idx,aJ,aL,bz,cM,dG,aI,aP,aH,ah,aN,aZ,bM,bI])
   have hn:¬(l[i].1<0\/l[i].2<=l[i].1\/m<=l[i].2):=by omega
   cases i with
   |zero=>
     have e:fD m (oP l 0) (l[0]::l.drop (0+1))=fD m (some l[0]) (l.drop (0+1)):=by
      conv=>lhs; unfold fD
      rw[if_neg hn,wE,if_neg (show ¬Me none l[0] from fun h=>h)]
     rw[e];exact (aV (by unfold Eu; simp[xZ,xY,xX,xW,xV,xU,xT,xS,xR,xQ,rQ,rP,h1,bF,ha,hb,hc,hw,idx,aJ,aL,bz,cM,dG,aI,aP,aH,ah,aN,aZ,bM,bI])).trans ih
   |succ j=>
     have hj:j<l.length:=by omega
     have U8:(j:Int)<l.length:=by omega
     have hp:(0:Int)<(j:Int)+1:=by omega
     have OB:(0:Int)<=(j:Int)+1:=by omega
     have U5:=yL (i:=j) (by omega);have h1:(j:Int)+1<l.length:=by omega
     have hw:IntKind.i64.wrap ((j:Int)+1+1)=(j:Int)+1+1:=Nf (j:=j+1+1) rfl (by omega);have ho:=Xk l[j] l[j+1];by_cases hd:KZ l[j] l[j+1]
     ·have e:fD m (oP l (j+1)) (l[j+1]::l.drop (j+1+1))=fD m (some l[j+1]) (l.drop (j+1+1)):=by
       conv=>lhs; unfold fD
       rw[if_neg hn,pK l j hj,if_neg (show ¬Me (some l[j]) l[j+1] from fun k=>k hd)]
      rw[e];exact (aV (by unfold Eu; simp[xZ,xY,xX,xW,xV,xU,xT,xS,xR,xQ,rQ,rP,h1,bF,ha,hb,hc,hj,U8,hp,OB,hw,U5,ho,hd,idx,sQ6,iQ6,aJ,aL,bz,cM,dG,aI,aP,aH,ah,aN,aZ,bM,bI])).trans ih
     ·have e:fD m (oP l (j+1)) (l[j+1]::l.drop (j+1+1))=5:=by
       unfold fD;rw[if_neg hn,pK l j hj,if_pos (show Me (some l[j]) l[j+1] from hd)]
      rw[e];exact cZ (by unfold Eu; simp[xZ,xY,xX,xW,xV,xU,xT,xS,xR,xQ,rQ,rP,h1,bF,ha,hb,hc,hj,U8,hp,OB,U5,ho,hd,idx,sQ6,iQ6,aJ,aL,bz,cM,dG,aI,aP,aH,ah,aN,aZ,bM,bI])
theorem yY (m:Int) (l:List Ed) (hl:l.length<4294967297):bu an nQL [.agg [.int .i64 m,.list 2 (dA l)]] []=some (.int .i64 (chkG m l),[]):=by
 rw[eO sQL (aB rfl)];have h:=Ny m l hl l.length 0 (by omega);rw[fU,ct,wE] at h;unfold qQL cQL chkG;by_cases ha:m<0
 ·simp[xZ,xY,xX,xW,xV,xU,xT,xS,xR,xQ,rQ,rP,ha,aJ,aL,bz,cM,dG,aI,aP,aH,ah,aN,aZ,bM,bI]
 by_cases hb:64<m
 ·simp[xZ,xY,xX,xW,xV,xU,xT,xS,xR,xQ,rQ,rP,ha,hb,aJ,aL,bz,cM,dG,aI,aP,aH,ah,aN,aZ,bM,bI]
 rw[if_neg (by omega)];by_cases hc:fD m none l=0
 ·rw[if_pos hc] at h;rw[hc];simp[xZ,xY,xX,xW,xV,xU,xT,xS,xR,xQ,rQ,rP,ha,hb,h,aJ,aL,bz,cM,dG,aI,aP,aH,ah,aN,aZ,bM,bI]
 ·rw[if_neg hc] at h;simp[xZ,xY,xX,xW,xV,xU,xT,xS,xR,xQ,rQ,rP,ha,hb,h,aJ,aL,bz,cM,dG,aI,aP,aH,ah,aN,aZ,bM,bI]
end Go.BmP
