/- What slices.Equal returns (E01's head). -/
import Derived.KernelRfl
import Derived.Test.YtbnheahpdodmjabGreatDoorT06
import Derived.Test.YtbnheahpdodmjabGreatDoorR02k
set_option linter.unusedSimpArgs false
set_option linter.unusedVariables false
set_option maxRecDepth 100000
set_option maxHeartbeats 4000000
open List renaming all_eq_true → pY, drop_eq_getElem_cons → bz, drop_length → cE, drop_zero → cP, mem_range → iP, range → eP
open List.cons renaming injEq → Sr
open Nat renaming le_of_ble_eq_true → au
namespace Go.BmP
open Go.Am Go.Bm
theorem VL (a b:List Int) (hl:a.length=b.length) (ha:a.length<4294967295):∀(k i:Nat),i+k=a.length->aW aq 0 (.loop L5) ⟨[(0,.list 1 (ints a)),(1,.list 1 (ints b)),(12,.int .i64 a.length),(13,.int .i64 i)],[]⟩ =
  if a.drop i=b.drop i then some (.exit 0,⟨[(0,.list 1 (ints a)),(1,.list 1 (ints b)),(12,.int .i64 a.length),(13,.int .i64 a.length),(14,.bool false)],[]⟩) else some (.ret,⟨[(4,.bool false)],[]⟩)
 |0,i,hi=>by
   obtain rfl:i=a.length:=by omega
   rw[cE,hl,cE,if_pos rfl];exact bn (by unfold L5; simp[CQ,CP,CO,CN,CM,CL,CK,CJ,CI,CH,aH,aN,bI,cV,dY,aM,aR,aK,ah,aQ,bu,bL,bC])
 |k+1,i,hi=>by
   have bE:i<a.length:=by omega
   have hltb:i<b.length:=by omega
   have h1:(i:Int)<a.length:=by omega
   have h1b:(i:Int)<b.length:=by omega
   have hw:=dA (i:=i) (by omega);have ih:=VL a b hl ha k (i+1) (by omega);have i1:=Dx (k:=.i64) (i:=(i:Int)) (n:=a.length) (by omega) h1;have i2:=Dx (k:=.i64) (i:=(i:Int)) (n:=b.length) (by omega) h1b;rw[bz bE,bz hltb];simp only[Sr];by_cases e:a[i]=b[i]
   ·have:(a[i]=b[i]/\a.drop (i+1)=b.drop (i+1))=(a.drop (i+1)=b.drop (i+1)):=by simp[e]
    simp only[this];rw[<-ih];exact aS (by unfold L5; simp[CQ,CP,CO,CN,CM,CL,CK,CJ,CI,CH,h1,h1b,bE,hltb,hw,i1,i2,e,aH,aN,bI,cV,dY,aM,aR,aK,ah,aQ,bu,bL,bC])
   ·rw[if_neg (fun k=>e k.1)];exact dM (by unfold L5; simp[CQ,CP,CO,CN,CM,CL,CK,CJ,CI,CH,h1,h1b,bE,hltb,hw,i1,i2,e,aH,aN,bI,cV,dY,aM,aR,aK,ah,aQ,bu,bL,bC])
theorem ai5 (a b:List Int) (ha:a.length<4294967295):bJ aq XF [.list 1 (ints a),.list 1 (ints b)] []=some (.bool (decide (a=b)),[]):=by
 rw[dZ sQa7 (au rfl)];unfold qQa7 cQa7;by_cases hl:a.length=b.length
 ·have lp:=VL a b hl ha a.length 0 (by omega);rw[cP,cP,fH] at lp;have NY:(a.length:Int)=b.length:=by omega
  by_cases e:a=b
  ·rw[if_pos e] at lp;subst e;simp[CQ,CP,CO,CN,CM,CL,CK,CJ,CI,CH,lp,aH,aN,bI,cV,dY,aM,aR,aK,ah,aQ,bu,bL,bC]
  ·rw[if_neg e] at lp;rw[decide_eq_false e];rw[NY] at lp;simp[CQ,CP,CO,CN,CM,CL,CK,CJ,CI,CH,lp,NY,aH,aN,bI,cV,dY,aM,aR,aK,ah,aQ,bu,bL,bC]
 ·have NY:¬(a.length:Int)=b.length:=by omega
  have e:¬a=b:=fun k=>hl (by rw[k]);rw[decide_eq_false e];simp[CQ,CP,CO,CN,CM,CL,CK,CJ,CI,CH,NY,aH,aN,bI,cV,dY,aM,aR,aK,ah,aQ,bu,bL,bC]
/- Greedy colourings, in plain words: they are proper, and two colours are enough if one side comes first. -/
structure NbOK (nb:Nat->List Int) (N:Nat):Prop where
 len:∀v,v<N->(nb v).length<65
 rng:∀v,v<N->∀w∈nb v,0<=w/\w<N
 sym:∀u v:Nat,u<N->v<N->(v:Int)∈nb u->(u:Int)∈nb v
 irr:∀v:Nat,v<N->(v:Int)∉nb v
structure Cso (nb:Nat->List Int) (N:Nat) (C:List Int):Prop where
 len:C.length=N
 rng:∀c∈C,-1<=c/\c<65
 pro:∀u v:Nat,u<N->v<N->(v:Int)∈nb u->0<=C.getD u (-1)->C.getD u (-1)≠C.getD v (-1)
/- What slices.Index of bools and slices.Repeat of one number return. -/
/- What masks.All and masks.Bit return. -/
def isU (z:Nat):Option (AV × Heap)->Bool
 |some (.int .u64 x,[])=>decide (x=(z:Int))
 |_=>false
theorem agf {z:Nat} {r:Option (AV × Heap)} (h:isU z r=true):r=some (.int .u64 (z:Int),[]):=by
 unfold isU at h;split at h
 ·rw[of_decide_eq_true h]
 ·cases h
theorem afV:((eP 65).all fun n=>isU (2 ^ n-1) (mz aq 100 Ua [.int .i64 n] []))=true:=by kernel_rfl
theorem afU (n:Nat) (h:n<=64):bJ aq Ua [.int .i64 n] []=some (.int .u64 ((2 ^ n-1:Nat):Int),[]):=
 iv.2 ⟨100,agf (pY.1 afV n (iP.2 (by omega)))⟩
theorem afS:((eP 64).all fun n=>isU (2 ^ n) (mz aq 100 nQM [.int .i64 n] []))=true:=by kernel_rfl
theorem EV (n:Nat) (h:n<64):bJ aq nQM [.int .i64 n] []=some (.int .u64 ((2 ^ n:Nat):Int),[]):=
 iv.2 ⟨100,agf (pY.1 afS n (iP.2 (by omega)))⟩
theorem LJ (x:Nat) (h0:x≠0) (hx:x<18446744073709551616):bJ aq T9 [.int .u64 x] []=some (.int .i64 (tz x:Nat),[]):=by
 have t:=adH x h0 hx;rw[dZ sQb1 (au rfl)];generalize tz x=y at *;unfold qQb1 cQb1;simp[aeI,aeH,t,sQb6,iQb6,aH,aN,bI,cV,dY,aM,aR,aK,ah,aQ,bu,bL,bC]
end Go.BmP
/- What maxclique.Colour returns: the greedy colouring in the order given. -/

set_option maxHeartbeats 8000000
namespace Go.BmP
open Go.Am Go.Bm
def LH (N:Nat) (Es:List Ed) (v:Nat):List Int:=HU N Es (v:Int)
/- maxclique.Colour as a whole. -/
/- Two sides, one first: two colours at most; a proper colouring stays proper without an edge. -/
/- What maxclique.Colour returns. -/
end Go.BmP
