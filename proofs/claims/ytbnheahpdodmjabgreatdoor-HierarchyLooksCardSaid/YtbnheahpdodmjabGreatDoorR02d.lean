/- What functions of cohesionref02 return: Has, Valid, put, Of. -/
import Derived.Test.YtbnheahpdodmjabGreatDoorUseM
set_option linter.unusedSimpArgs false
set_option linter.unusedVariables false
set_option maxRecDepth 100000
open List renaming append_assoc → dS, append_nil → jE, drop_eq_getElem_cons → bz, drop_length → cE, drop_zero → cP, filter_cons → NH, getElem?_eq_getElem → aj, length_append → bO, length_cons → cH, length_drop → eV, length_nil → gG, length_singleton → sT, length_take → bD, mem_cons → aO, mem_filter → fV, nil_append → oV, range → eP, singleton_append → WC, take_of_length_le → aT
open Nat renaming le_of_ble_eq_true → au, zero_add → fT
namespace Go.BmP
open Go.Am Go.Bm
theorem Vv (x:Int) (l:List Int) (hl:l.length<4294967297):∀n i:Nat,i+n=l.length->aW aq 0 (.loop UT) ⟨[(1,.int .i64 x),(7,.list 1 (ints l)),(8,.int .i64 l.length),(9,.int .i64 i)],[]⟩ =
  if x∈l.drop i then some (.ret,⟨[(4,.bool true)],[]⟩) else some (.exit 0,⟨[(1,.int .i64 x),(7,.list 1 (ints l)),(8,.int .i64 l.length),(9,.int .i64 l.length),(10,.bool false)],[]⟩)
 |0,i,hi=>by
   have e:i=l.length:=by omega
   subst e;rw[cE];exact bn (by unfold UT; simp[Pf,Pe,Pd,Pc,O9,O8,O7,O6])
 |n+1,i,hi=>by
   have bE:i<l.length:=by omega
   have h1:(i:Int)<l.length:=by omega
   have ih:=Vv x l hl n (i+1) (by omega);have hw:=dA (i:=i) (by omega);rw[bz bE];by_cases hx:l[i]=x
   ·rw[if_pos (by simp[hx])];exact dM (by unfold UT; simp[Pf,Pe,Pd,Pc,O9,O8,O7,O6,h1,bE,hx,ah,aQ,bu,idx])
   ·have hx2:¬x=l[i]:=fun e=>hx e.symm;simp only[aO,hx2,false_or];exact (aS (by unfold UT; simp[Pf,Pe,Pd,Pc,O9,O8,O7,O6,h1,bE,hx,hw,ah,aQ,bu,idx])).trans ih
theorem pJ (x:Int) (l:List Int) (hl:l.length<4294967297):bJ aq Wp [.list 1 (ints l),.int .i64 x] []=some (.bool (decide (x∈l)),[]):=by
 rw[dZ Jp (au rfl)];have h:=Vv x l hl l.length 0 (by omega);rw[fH,cP] at h;unfold qQD cQD;by_cases hx:x∈l
 ·simp[Pf,Pe,Pd,Pc,O9,O8,O7,O6,h,hx,ah,bL,bC]
 ·simp[Pf,Pe,Pd,Pc,O9,O8,O7,O6,h,hx,ah,bL,bC]
theorem TJ (x:Int) (l:List Int) (hl:l.length<4294967296):∀n i:Nat,i+n=l.length->aW aq 0 (.loop L4) ⟨[(0,.list 1 (ints l)),(1,.int .i64 x),(5,.int .i64 i)],[]⟩ =
  some (.exit 0,⟨[(0,.list 1 (ints l)),(1,.int .i64 x),(5,.int .i64 (i+pos x (l.drop i):Nat)),(18,.bool false)],[]⟩)
 |0,i,hi=>by
   have e:i=l.length:=by omega
   subst e;rw[cE];exact bn (by unfold L4; simp[CG,CF,CE,CD,CC,CB,CA,Cz,pos,ah,idx])
 |n+1,i,hi=>by
   have bE:i<l.length:=by omega
   have h1:(i:Int)<l.length:=by omega
   have ih:=TJ x l hl n (i+1) (by omega);have hw:=dA (i:=i) (by omega);rw[bz bE];unfold pos;by_cases hx:l[i]<x
   ·have e:i+(pos x (l.drop (i+1))+1)=i+1+pos x (l.drop (i+1)):=by omega
    rw[if_pos hx,e];exact (aS (by unfold L4; simp[CG,CF,CE,CD,CC,CB,CA,Cz,h1,bE,hx,hw,ah,aQ,bu,idx])).trans ih
   ·rw[if_neg hx];exact bn (by unfold L4; simp[CG,CF,CE,CD,CC,CB,CA,Cz,h1,bE,hx,ah,aQ,bu,idx])
/- What functions of cohesionref02 return: put, Of, Range, Union, Meet, Minus, Within, Cmp, Same. -/
theorem aaU (x:Int) (l:List Int) (hl:l.length<4294967295):bJ aq XB [.list 1 (ints l),.int .i64 x] []=some (.list 1 (ints (ud x l)),[]):=by
 rw[dZ sQb7 (au rfl),TK];have h:=TJ x l (by omega) l.length 0 (by omega);rw[fH,cP,fT] at h;have hp:=ae7 x l;generalize pos x l=p at h hp ⊢;have hq:(p:Int)<=l.length:=by omega
 have hm:min p l.length=p:=by omega
 have hL1:p<=4294967296:=by omega
 have hL2:p+1<=4294967296:=by omega
 have hL3:p+1+(l.length-p)<=4294967296:=by omega
 unfold qQb7 cQb7;by_cases bE:p<l.length
 ·have h1:(p:Int)<l.length:=by omega
  by_cases hx:l[p]=x
  ·rw[if_pos (by rw[aj bE,hx])];simp[CG,CF,CE,CD,CC,CB,CA,Cz,h,h1,bE,hx,ah,aQ,bu,idx,bL,bC]
  ·rw[if_neg (by rw[aj bE]; simpa using hx)];simp[CG,CF,CE,CD,CC,CB,CA,Cz,h,h1,bE,hx,hp,hq,hm,hL1,hL2,hL3,ah,aQ,bu,idx,bL,bC,dh,gz,cZ,U7,ks,bD,eV];simp (disch:=(simp only[bD,bO,eV,sT,cH,gG]<;>omega)) only[aT,List.take_take,Nat.min_self,dS,WC]
 ·have h1:¬(p:Int)<l.length:=by omega
  rw[if_neg (by rw[List.getElem?_eq_none (by omega)]; simp)];simp[CG,CF,CE,CD,CC,CB,CA,Cz,h,h1,bE,hp,hq,hm,hL1,hL2,hL3,ah,aQ,bu,idx,bL,bC,dh,gz,cZ,U7,ks,bD,eV];simp (disch:=(simp only[bD,bO,eV,sT,cH,gG]<;>omega)) only[aT,List.take_take,Nat.min_self,dS,WC]
theorem abl (l:List Int) (hl:l.length<4294967295):∀(n i:Nat) (o:List Int),i+n=l.length->o.length<=i->aW aq 0 (.loop Dt) ⟨[(3,.list 1 (ints o)),(6,.list 1 (ints l)),(7,.int .i64 l.length),(8,.int .i64 i)],[]⟩ =
  some (.exit 0,⟨[(3,.list 1 (ints ((l.drop i).foldl (fun o x=>ud x o) o))),(6,.list 1 (ints l)),(7,.int .i64 l.length),(8,.int .i64 l.length),(9,.bool false)],[]⟩)
 |0,i,o,hi,ho=>by
   have e:i=l.length:=by omega
   subst e;rw[cE];exact bn (by unfold Dt; simp[CY,CX,CW,CV,CU,CT,CS,CR])
 |n+1,i,o,hi,ho=>by
   have bE:i<l.length:=by omega
   have h1:(i:Int)<l.length:=by omega
   have hw:=dA (i:=i) (by omega);have hp:=aaU l[i] o (by omega);have oS:=TL l[i] o;have ih:=abl l hl n (i+1) (ud l[i] o) (by omega) (by omega);rw[bz bE,List.foldl_cons];exact (aS (by unfold Dt; simp[CY,CX,CW,CV,CU,CT,CS,CR,h1,bE,hw,hp,sQb7,iQb7,ah,aQ,bu,idx])).trans ih
theorem afB (l:List Int) (hl:l.length<4294967295):aW aq 0 (.loop Dt) ⟨[(3,.own 1 []),(6,.list 1 (ints l)),(7,.int .i64 l.length),(8,.int .i64 0)],[]⟩ =
  some (.exit 0,⟨[(3,if l=[] then .own 1 [] else .list 1 (ints (dE l))),(6,.list 1 (ints l)),(7,.int .i64 l.length),(8,.int .i64 l.length),(9,.bool false)],[]⟩):=by
 cases l with
 |nil=>exact bn (by unfold Dt; simp[CY,CX,CW,CV,CU,CT,CS,CR,dT])
 |cons a r=>
   have hp:=aaU a [] (by simp);have ih:=abl (a::r) hl r.length 1 (ud a []) (by simp; omega) (by simp[ud]);rw[<-amg,if_neg (by simp)];rw[dT] at hp;refine (aS (s':=⟨[(3,.list 1 (ints (ud a []))),(6,.list 1 (ints (a::r))),(7,.int .i64 (a::r).length),(8,.int .i64 ((1:Nat):Int))],[]⟩) ?_).trans (ih.trans ?_)
   ·have h1:(0:Int)<(r.length:Int)+1:=by omega
    unfold Dt;simp[CY,CX,CW,CV,CU,CT,CS,CR,h1,hp,sQb7,iQb7,ah,kc,idx]
   ·rfl
theorem Ri (l:List Int) (hl:l.length<4294967295):bJ aq NQ [.list 1 (ints l)] []=some (.list 1 (ints (dE l)),[]):=by
 rw[dZ sQa4 (au rfl)];have h:=afB l hl;unfold qQa4 cQa4;by_cases hx:l=[]
 ·subst hx;rw[if_pos rfl] at h;simp only[dT,gG,fH] at h;simp[CY,CX,CW,CV,CU,CT,CS,CR,h,dT,bL,bC];rfl
 ·rw[if_neg hx] at h;simp[CY,CX,CW,CV,CU,CT,CS,CR,h,ah,bL,bC]
theorem Gb (l b:List Int) (hl:l.length<4294967295) (hb:b.length<4294967295):∀(n i:Nat) (o:List Int),i+n=l.length->o.length<=i->aW aq 0 (.loop L9) ⟨[(1,.list 1 (ints b)),(5,.own 1 (ints o)),(9,.list 1 (ints l)),(10,.int .i64 l.length),(11,.int .i64 i)],[]⟩ =
  some (.exit 0,⟨[(1,.list 1 (ints b)),(5,.own 1 (ints (o++(l.drop i).filter fun x=>decide (x∈b)))),(9,.list 1 (ints l)),(10,.int .i64 l.length),(11,.int .i64 l.length),(12,.bool false)],[]⟩)
 |0,i,o,hi,ho=>by
   have e:i=l.length:=by omega
   subst e;rw[cE,List.filter_nil,jE];exact bn (by unfold L9; simp[KO,KN,KM,KL,KK,KJ,KI,KH,KG])
 |n+1,i,o,hi,ho=>by
   have bE:i<l.length:=by omega
   have h1:(i:Int)<l.length:=by omega
   have hw:=dA (i:=i) (by omega);have hh:=pJ l[i] b (by omega);have hL:o.length+1<=4294967296:=by omega
   rw[bz bE,NH];by_cases hx:l[i]∈b
   ·have ih:=Gb l b hl hb n (i+1) (o++[l[i]]) (by omega) (by simp; omega);rw[dS] at ih;rw[if_pos (by simpa using hx)];exact (aS (by unfold L9; simp[KO,KN,KM,KL,KK,KJ,KI,KH,KG,h1,bE,hw,hh,hx,hL,ks,Jp,Nz,ah,aQ,bu,idx,cZ,dh])).trans ih
   ·have ih:=Gb l b hl hb n (i+1) o (by omega) (by omega);rw[if_neg (by simpa using hx)];exact (aS (by unfold L9; simp[KO,KN,KM,KL,KK,KJ,KI,KH,KG,h1,bE,hw,hh,hx,hL,ks,Jp,Nz,ah,aQ,bu,idx,cZ,dh])).trans ih
theorem Uq (a b:List Int) (ha:a.length<4294967295) (hb:b.length<4294967295):bJ aq Uc [.list 1 (ints a),.list 1 (ints b)] []=some (.own 1 (ints (meet a b)),[]):=by
 rw[dZ sQa2 (au rfl)];have hs:=oE a;have h:=Gb (dE a) b (by omega) hb (dE a).length 0 [] (by omega) (by simp);have ho:=Ri a ha;have e:(dE a).filter (fun x=>decide (x∈b))=meet a b:=tK ((gR a).1.filter _) (tB _ _).1 fun x=>by rw[(tB _ _).2,fV,(gR _).2]; simp
 rw[fH,cP,oV,e,dT] at h;unfold qQa2 cQa2;simp[KO,KN,KM,KL,KK,KJ,KI,KH,KG,h,ho,ks,dT,ah,dh,bL,bC,wN,LU,Ow,Ov,sQa4,iQa4]
theorem Dj (l b:List Int) (hl:l.length<4294967295) (hb:b.length<4294967295):∀(n i:Nat) (o:List Int),i+n=l.length->o.length<=i->aW aq 0 (.loop UL) ⟨[(1,.list 1 (ints b)),(5,.own 1 (ints o)),(9,.list 1 (ints l)),(10,.int .i64 l.length),(11,.int .i64 i)],[]⟩ =
  some (.exit 0,⟨[(1,.list 1 (ints b)),(5,.own 1 (ints (o++(l.drop i).filter fun x=>!decide (x∈b)))),(9,.list 1 (ints l)),(10,.int .i64 l.length),(11,.int .i64 l.length),(12,.bool false)],[]⟩)
 |0,i,o,hi,ho=>by
   have e:i=l.length:=by omega
   subst e;rw[cE,List.filter_nil,jE];exact bn (by unfold UL; simp[Ts,Tr,Tq,Tp,To,Tn,Tm,Tl,Tk])
 |n+1,i,o,hi,ho=>by
   have bE:i<l.length:=by omega
   have h1:(i:Int)<l.length:=by omega
   have hw:=dA (i:=i) (by omega);have hh:=pJ l[i] b (by omega);have hL:o.length+1<=4294967296:=by omega
   rw[bz bE,NH];by_cases hx:l[i]∈b
   ·have ih:=Dj l b hl hb n (i+1) o (by omega) (by omega);rw[if_neg (by simpa using hx)];exact (aS (by unfold UL; simp[Ts,Tr,Tq,Tp,To,Tn,Tm,Tl,Tk,h1,bE,hw,hh,hx,hL,ks,Jp,Nz,ah,aQ,bu,idx,cZ,dh])).trans ih
   ·have ih:=Dj l b hl hb n (i+1) (o++[l[i]]) (by omega) (by simp; omega);rw[dS] at ih;rw[if_pos (by simpa using hx)];exact (aS (by unfold UL; simp[Ts,Tr,Tq,Tp,To,Tn,Tm,Tl,Tk,h1,bE,hw,hh,hx,hL,ks,Jp,Nz,ah,aQ,bu,idx,cZ,dh])).trans ih
theorem Pz (a b:List Int) (ha:a.length<4294967295) (hb:b.length<4294967295):bJ aq nQT [.list 1 (ints a),.list 1 (ints b)] []=some (.list 1 (ints (minus a b)),[]):=by
 rw[dZ sQT (au rfl)];have hs:=oE a;have h:=Dj (dE a) b (by omega) hb (dE a).length 0 [] (by omega) (by simp);have ho:=Ri a ha;have e:(dE a).filter (fun x=>!decide (x∈b))=minus a b:=tK ((gR a).1.filter _) (oA _ _).1 fun x=>by rw[(oA _ _).2,fV,(gR _).2]; simp
 rw[fH,cP,oV,e,dT] at h;unfold qQT cQT;simp[Ts,Tr,Tq,Tp,To,Tn,Tm,Tl,Tk,h,ho,ks,dT,ah,dh,bL,bC,sQa4,iQa4]
theorem GS (l b:List Int) (hl:l.length<4294967295) (hb:b.length<4294967295):∀(n i:Nat),i+n=l.length->aW aq 0 (.loop UF) ⟨[(1,.list 1 (ints b)),(7,.list 1 (ints l)),(8,.int .i64 l.length),(9,.int .i64 i)],[]⟩ =
  if (l.drop i).all (fun x=>decide (x∈b))=true then some (.exit 0,⟨[(1,.list 1 (ints b)),(7,.list 1 (ints l)),(8,.int .i64 l.length),(9,.int .i64 l.length),(10,.bool false)],[]⟩) else some (.ret,⟨[(4,.bool false)],[]⟩)
 |0,i,hi=>by
   have e:i=l.length:=by omega
   subst e;rw[cE,List.all_nil,if_pos rfl];exact bn (by unfold UF; simp[OS,OR,OQ,OP,OO,ON,OM,OL])
 |n+1,i,hi=>by
   have bE:i<l.length:=by omega
   have h1:(i:Int)<l.length:=by omega
   have hw:=dA (i:=i) (by omega);have hh:=pJ l[i] b (by omega);rw[bz bE,List.all_cons];by_cases hx:l[i]∈b
   ·have ih:=GS l b hl hb n (i+1) (by omega);simp only[hx,decide_true,Bool.true_and];exact (aS (by unfold UF; simp[OS,OR,OQ,OP,OO,ON,OM,OL,h1,bE,hw,hh,hx,Jp,Nz,ah,aQ,bu,idx])).trans ih
   ·simp only[hx,decide_false,Bool.false_and,Bool.false_eq_true,if_false];exact dM (by unfold UF; simp[OS,OR,OQ,OP,OO,ON,OM,OL,h1,bE,hw,hh,hx,Jp,Nz,ah,aQ,bu,idx])
theorem Ja (a b:List Int) (ha:a.length<4294967295) (hb:b.length<4294967295):bJ aq nQw [.list 1 (ints a),.list 1 (ints b)] []=some (.bool (a.all fun x=>decide (x∈b)),[]):=by
 rw[dZ sQw (au rfl)];have h:=GS a b ha hb a.length 0 (by omega);rw[fH,cP] at h;unfold qQw cQw;cases hx:a.all fun x=>decide (x∈b)
 ·rw[hx] at h;simp[OS,OR,OQ,OP,OO,ON,OM,OL,h,ah,bL,bC]
 ·rw[hx] at h;simp[OS,OR,OQ,OP,OO,ON,OM,OL,h,ah,bL,bC]
def jq (n:Int):List Int:=(eP (min n.toNat 64)).map fun i=>((i:Nat):Int)
theorem Jx (m:Int):∀(n i:Nat),i+n=min m.toNat 64->aW aq 0 (.loop UN) ⟨[(0,.int .i64 m),(3,.own 1 (ints ((eP i).map fun i=>((i:Nat):Int)))),(4,.int .i64 i)],[]⟩ =
  some (.exit 0,⟨[(0,.int .i64 m),(3,.own 1 (ints (jq m))),(4,.int .i64 (min m.toNat 64:Nat)),(11,.bool false)],[]⟩)
 |0,i,hi=>by
   have e:i=min m.toNat 64:=by omega
   have e2:((eP i).map fun i=>((i:Nat):Int))=jq m:=by rw[e]; rfl
   rw[e2,<-e];by_cases h:(i:Int)<m
   ·have h2:¬(i:Int)<64:=by omega
    exact bn (by unfold UN; simp[Tz,Ty,Tx,Tw,Tv,Tu,Tt,h,h2])
   ·exact bn (by unfold UN; simp[Tz,Ty,Tx,Tw,Tv,Tu,Tt,h])
 |n+1,i,hi=>by
   have h:(i:Int)<m:=by omega
   have h2:(i:Int)<64:=by omega
   have hw:=dA (i:=i) (by omega);have hL:i+1<=4294967296:=by omega
   have ih:=Jx m n (i+1) (by omega);have e:((eP (i+1)).map fun i=>((i:Nat):Int))=((eP i).map fun i=>((i:Nat):Int))++[(i:Int)]:=by rw[List.range_succ,List.map_append]; rfl
   rw[e] at ih;generalize hr:((eP i).map fun i=>((i:Nat):Int))=r at ih ⊢;have hrl:r.length=i:=by rw[<-hr]; simp
   exact (aS (by unfold UN; simp[Tz,Ty,Tx,Tw,Tv,Tu,Tt,h,h2,hw,hL,hrl,WO hrl,ks,ah,cZ,dh])).trans ih
theorem OK (m:Int):bJ aq nQR [.int .i64 m] []=some (.list 1 (ints (jq m)),[]):=by
 rw[dZ sQR (au rfl)];have h:=Jx m (min m.toNat 64) 0 (by omega);rw[fH,List.range_zero,List.map_nil,dT] at h;unfold qQR cQR;simp[Tz,Ty,Tx,Tw,Tv,Tu,Tt,h,ah,dh,bL,bC]
/- What comparisons return; nodeset.Valid, Has, Cmp, Range. -/
def km:List Int->List Int->Option Int
 |[],_=>none
 |_::_,[]=>some 1
 |x::r,y::s=>if y<x then some 1 else if x<y then some (-1) else km r s
theorem BC:∀a b:List Int,ji a b=(km a b).getD (if a.length<b.length then -1 else 0)
 |[],[]=>rfl
 |[],_::_=>by simp[ji,km]
 |_::_,[]=>rfl
 |x::r,y::s=>by
   have ih:=BC r s;unfold ji km;split
   ·rfl
   ·split
    ·rfl
    ·rw[ih]; simp
theorem VV (a b:List Int) (hl:a.length<=9223372036854775807) (hb:b.length<=9223372036854775807):∀(n i:Nat),i+n=a.length->aW aq 0 (.loop Mc) ⟨[(0,.list 1 (ints a)),(1,.list 1 (ints b)),(7,.int .i64 a.length),(8,.int .i64 i)],[]⟩ =
  match km (a.drop i) (b.drop i) with
  |some v=>some (.ret,⟨[(4,.int .i64 v)],[]⟩)
  |none=>some (.exit 0,⟨[(0,.list 1 (ints a)),(1,.list 1 (ints b)),(7,.int .i64 a.length),(8,.int .i64 a.length),(9,.bool false)],[]⟩)
 |0,i,hi=>by
   have e:i=a.length:=by omega
   subst e;rw[cE];unfold km;exact bn (by unfold Mc; simp[Ez,Ey,Ew,Eu,Er,Ep,Eo,En,Em,El,xe,xd])
 |n+1,i,hi=>by
   have bE:i<a.length:=by omega
   have h1:(i:Int)<a.length:=by omega
   have hw:=dA (i:=i) (by omega);have ih:=VV a b hl hb n (i+1) (by omega);rw[bz bE];by_cases hk:i<b.length
   ·have h2:(i:Int)<b.length:=by omega
    have N7:¬(b.length:Int)<=i:=by omega
    rw[bz hk];unfold km;by_cases hg:b[i]<a[i]
    ·rw[if_pos hg];exact dM (by unfold Mc; simp[Ez,Ey,Ew,Eu,Er,Ep,Eo,En,Em,El,xe,xd,h1,bE,h2,N7,hk,hg,ah,aQ,bu,idx])
    ·rw[if_neg hg];by_cases hs:a[i]<b[i]
     ·rw[if_pos hs];exact dM (by unfold Mc; simp[Ez,Ey,Ew,Eu,Er,Ep,Eo,En,Em,El,xe,xd,h1,bE,h2,N7,hk,hg,hs,ah,aQ,bu,idx])
     ·rw[if_neg hs];exact (aS (by unfold Mc; simp[Ez,Ey,Ew,Eu,Er,Ep,Eo,En,Em,El,xe,xd,h1,bE,h2,N7,hk,hg,hs,hw,ah,aQ,bu,idx])).trans ih
   ·have N7:(b.length:Int)<=i:=by omega
    have e0:b.drop i=[]:=List.drop_eq_nil_of_le (by omega);rw[e0];unfold km;exact dM (by unfold Mc; simp[Ez,Ey,Ew,Eu,Er,Ep,Eo,En,Em,El,xe,xd,h1,bE,N7,hk,ah,aQ,bu,idx])
theorem aci (a b:List Int) (hl:a.length<=9223372036854775807) (hb:b.length<=9223372036854775807):bJ aq nQF [.list 1 (ints a),.list 1 (ints b)] []=some (.int .i64 (ji a b),[]):=by
 rw[dZ sQF (au rfl),BC];have h:=VV a b hl hb a.length 0 (by omega);rw[fH,cP,cP] at h;unfold qQF cQF;cases hx:km a b with
 |some v=>
   rw[hx] at h;simp only at h;rw[Option.getD_some];simp[Ez,Ey,Ew,Eu,Er,Ep,Eo,En,Em,El,xe,xd,h,ah,bL,bC]
 |none=>
   rw[hx] at h;simp only at h;rw[Option.getD_none];by_cases bE:a.length<b.length
   ·have h1:(a.length:Int)<b.length:=by omega
    simp[Ez,Ey,Ew,Eu,Er,Ep,Eo,En,Em,El,xe,xd,h,bE,h1,ah,bL,bC]
   ·have h1:¬(a.length:Int)<b.length:=by omega
    simp[Ez,Ey,Ew,Eu,Er,Ep,Eo,En,Em,El,xe,xd,h,bE,h1,ah,bL,bC]
theorem vW (a b:List Int) (hl:a.length<4294967295) (hb:b.length<4294967295):bJ aq Xy [.list 1 (ints a),.list 1 (ints b)] []=some (.bool (decide (a=b)),[]):=by
 rw[dZ sQk (au rfl)];have h:=aci a b (by omega) (by omega);unfold qQk cQk;by_cases bE:a.length=b.length
 ·have h1:(a.length:Int)=b.length:=by omega
  by_cases he:a=b
  ·have hc:=BB.2 he;rw[hc] at h;subst he;simp[ZP,ZO,h,sQF,iQF,ah,bL,bC]
  ·have hc:¬ji a b=0:=fun e=>he (BB.1 e);simp[ZP,ZO,h,h1,he,hc,sQF,iQF,ah,bL,bC]
 ·have h1:¬(a.length:Int)=b.length:=by omega
  have he:¬a=b:=fun e=>bE (e▸rfl);simp[ZP,ZO,h1,he,ah,bL,bC]
theorem ET (x:Int):bJ aq wx [.int .i64 x] []=some (.bool false,[]):=by
 rw[dZ QT (au rfl)];unfold Xg cQb3;simp[Xe,Xd,bL,bC]
def uD (x y:Int):Int:=if x<y then -1 else if y<x then 1 else 0
theorem MO (x y:Int):bJ aq Ny [.int .i64 x,.int .i64 y] []=some (.int .i64 (uD x y),[]):=by
 rw[dZ sQ5 (au rfl)];have hx:=ET x;have hy:=ET y;unfold qQ5 cQ5 uD;by_cases h1:x<y
 ·simp[La,K9,K8,K7,K6,K5,K4,K3,K2,K1,C8,C7,C6,C5,hx,hy,h1,QT,XX,bL,bC]
 ·by_cases h2:y<x
  ·simp[La,K9,K8,K7,K6,K5,K4,K3,K2,K1,C8,C7,C6,C5,hx,hy,h1,h2,QT,XX,bL,bC]
  ·simp[La,K9,K8,K7,K6,K5,K4,K3,K2,K1,C8,C7,C6,C5,hx,hy,h1,h2,QT,XX,bL,bC]
theorem Mi (x:Int) (l:List Int) (hl:l.length<4294967297):∀n i:Nat,i+n=l.length->aW aq 0 (.loop L7) ⟨[(0,.list 1 (ints l)),(1,.int .i64 x),(7,.int .i64 l.length),(8,.int .i64 i)],[]⟩ =
  if x∈l.drop i then some (.ret,⟨[(4,.int .i64 (i+(l.drop i).idxOf x:Nat))],[]⟩) else some (.exit 0,⟨[(0,.list 1 (ints l)),(1,.int .i64 x),(7,.int .i64 l.length),(8,.int .i64 l.length),(9,.bool false)],[]⟩)
 |0,i,hi=>by
   have e:i=l.length:=by omega
   subst e;rw[cE,if_neg (by simp)];exact bn (by unfold L7; simp[FZ,FY,FX,FW,FV,FU,FT,FR])
 |n+1,i,hi=>by
   have bE:i<l.length:=by omega
   have h1:(i:Int)<l.length:=by omega
   have ih:=Mi x l hl n (i+1) (by omega);have hw:=dA (i:=i) (by omega);rw[bz bE];by_cases hx:x=l[i]
   ·rw[if_pos (by rw[hx]; exact List.mem_cons_self),show (l[i]::l.drop (i+1)).idxOf x=0 by rw[hx]; exact List.idxOf_cons_self];exact dM (by unfold L7; simp[FZ,FY,FX,FW,FV,FU,FT,FR,h1,bE,hx,ah,aQ,bu,idx])
   ·have hx2:¬l[i]=x:=fun e=>hx e.symm;rw[show (l[i]::l.drop (i+1)).idxOf x=(l.drop (i+1)).idxOf x+1 by simp only[List.idxOf_cons]; rw[show (l[i] == x)=false by simpa using hx2]; rfl,show i+((l.drop (i+1)).idxOf x+1)=i+1+(l.drop (i+1)).idxOf x by omega];simp only[aO,hx,false_or];exact (aS (by unfold L7; simp[FZ,FY,FX,FW,FV,FU,FT,FR,h1,bE,hx,hw,ah,aQ,bu,idx])).trans ih
theorem ada (x:Int) (l:List Int) (hl:l.length<4294967297):bJ aq XH [.list 1 (ints l),.int .i64 x] []=some (.int .i64 (if x∈l then (l.idxOf x:Int) else -1),[]):=by
 rw[dZ sQa5 (au rfl)];have h:=Mi x l hl l.length 0 (by omega);rw[fH,cP,fT] at h;unfold qQa5 cQa5;by_cases hx:x∈l
 ·rw[if_pos hx] at h;simp[FZ,FY,FX,FW,FV,FU,FT,FR,h,hx,ah,bL,bC]
 ·rw[if_neg hx] at h;simp[FZ,FY,FX,FW,FV,FU,FT,FR,h,hx,ah,bL,bC]
theorem R6 (x:Int) (l:List Int) (hl:l.length<4294967297):bJ aq nQV [.list 1 (ints l),.int .i64 x] []=some (.bool (decide (x∈l)),[]):=by
 rw[dZ sQV (au rfl)];have h:=ada x l hl;unfold qQV cQV;by_cases hx:x∈l
 ·rw[if_pos hx] at h;have h0:(0:Int)<=(l.idxOf x:Int):=by omega
  simp[aeS,aeR,h,h0,hx,sQa5,iQa5,bL,bC]
 ·rw[if_neg hx] at h;simp[aeS,aeR,h,hx,sQa5,iQa5,bL,bC]
theorem LG (x:Int) (l:List Int) (hl:l.length<4294967297):bJ aq nQC [.list 1 (ints l),.int .i64 x] []=some (.bool (decide (x∈l)),[]):=by
 rw[dZ sQC (au rfl)];have h:=R6 x l hl;unfold qQC cQC;simp[aks,akr,h,sQV,iQV,bL,bC]
end Go.BmP
