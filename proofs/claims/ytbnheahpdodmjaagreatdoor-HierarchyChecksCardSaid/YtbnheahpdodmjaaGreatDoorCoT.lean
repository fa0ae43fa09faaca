/- What slices.Equal returns (E01's head). -/
import Derived.KernelRfl
import Derived.Test.YtbnheahpdodmjaaGreatDoorT06
import Derived.Test.YtbnheahpdodmjaaGreatDoorR02k
set_option linter.unusedSimpArgs false
set_option linter.unusedVariables false
set_option maxRecDepth 100000
set_option maxHeartbeats 4000000
open List renaming all_eq_true → ph, drop_eq_getElem_cons → bg, drop_length → bY, drop_zero → ct, mem_range → iG, range → eF
open List.cons renaming injEq → QV
open Nat renaming le_of_ble_eq_true → aB
namespace Go.BmP
open Go.Am Go.Bm
theorem Uj (a b:List Int) (hl:a.length=b.length) (ha:a.length<4294967295):∀(k i:Nat),i+k=a.length->aY an 0 (.loop Tm) ⟨[(0,.list 1 (ints a)),(1,.list 1 (ints b)),(12,.int .i64 a.length),(13,.int .i64 i)],[]⟩ =
  if a.drop i=b.drop i then some (.exit 0,⟨[(0,.list 1 (ints a)),(1,.list 1 (ints b)),(12,.int .i64 a.length),(13,.int .i64 a.length),(14,.bool false)],[]⟩) else some (.ret,⟨[(4,.bool false)],[]⟩)
 |0,i,hi=>by
   obtain rfl:i=a.length:=by omega
   rw[bY,hl,bY,if_pos rfl];exact bt (by unfold Tm; simp[J7,J6,J5,J4,J3,J2,J1,J0,JZ,JY,aJ,aL,bz,cM,dG,aI,aP,aH,ah,aN,aZ,bM,bI])
 |k+1,i,hi=>by
   have bF:i<a.length:=by omega
   have hltb:i<b.length:=by omega
   have h1:(i:Int)<a.length:=by omega
   have h1b:(i:Int)<b.length:=by omega
   have hw:=dO (i:=i) (by omega);have ih:=Uj a b hl ha k (i+1) (by omega);have i1:=CU (k:=.i64) (i:=(i:Int)) (n:=a.length) (by omega) h1;have i2:=CU (k:=.i64) (i:=(i:Int)) (n:=b.length) (by omega) h1b;rw[bg bF,bg hltb];simp only[QV];by_cases e:a[i]=b[i]
   ·have:(a[i]=b[i]/\a.drop (i+1)=b.drop (i+1))=(a.drop (i+1)=b.drop (i+1)):=by simp[e]
    simp only[this];rw[<-ih];exact aV (by unfold Tm; simp[J7,J6,J5,J4,J3,J2,J1,J0,JZ,JY,h1,h1b,bF,hltb,hw,i1,i2,e,aJ,aL,bz,cM,dG,aI,aP,aH,ah,aN,aZ,bM,bI])
   ·rw[if_neg (fun k=>e k.1)];exact cZ (by unfold Tm; simp[J7,J6,J5,J4,J3,J2,J1,J0,JZ,JY,h1,h1b,bF,hltb,hw,i1,i2,e,aJ,aL,bz,cM,dG,aI,aP,aH,ah,aN,aZ,bM,bI])
theorem ahz (a b:List Int) (ha:a.length<4294967295):bu an nQS [.list 1 (ints a),.list 1 (ints b)] []=some (.bool (decide (a=b)),[]):=by
 rw[eO sQS (aB rfl)];unfold qQS cQS;by_cases hl:a.length=b.length
 ·have lp:=Uj a b hl ha a.length 0 (by omega);rw[ct,ct,fU] at lp;have MY:(a.length:Int)=b.length:=by omega
  by_cases e:a=b
  ·rw[if_pos e] at lp;subst e;simp[J7,J6,J5,J4,J3,J2,J1,J0,JZ,JY,lp,aJ,aL,bz,cM,dG,aI,aP,aH,ah,aN,aZ,bM,bI]
  ·rw[if_neg e] at lp;rw[decide_eq_false e];rw[MY] at lp;simp[J7,J6,J5,J4,J3,J2,J1,J0,JZ,JY,lp,MY,aJ,aL,bz,cM,dG,aI,aP,aH,ah,aN,aZ,bM,bI]
 ·have MY:¬(a.length:Int)=b.length:=by omega
  have e:¬a=b:=fun k=>hl (by rw[k]);rw[decide_eq_false e];simp[J7,J6,J5,J4,J3,J2,J1,J0,JZ,JY,MY,aJ,aL,bz,cM,dG,aI,aP,aH,ah,aN,aZ,bM,bI]
/- Greedy colourings, in plain words: they are proper, and two colours are enough if one side comes first. -/
def tkn (L:List Int):List Bool:=(eF 65).map fun (c:Nat)=>decide ((c:Int)∈L)
def mex (L:List Int):Nat:=(tkn L).findIdx fun b=>!b
def ncl (C:List Int) (W:List Int):List Int:=W.filterMap fun w=>if 0<=C.getD w.toNat (-1) then some (C.getD w.toNat (-1)) else none
def stc (nb:Nat->List Int) (C:List Int) (v:Int):List Int:=C.set v.toNat (mex (ncl C (nb v.toNat)):Nat)
def grc (nb:Nat->List Int) (N:Nat) (O:List Int):List Int:=O.foldl (stc nb) (List.replicate N (-1))
structure NbOK (nb:Nat->List Int) (N:Nat):Prop where
 len:∀v,v<N->(nb v).length<65
 rng:∀v,v<N->∀w∈nb v,0<=w/\w<N
 sym:∀u v:Nat,u<N->v<N->(v:Int)∈nb u->(u:Int)∈nb v
 irr:∀v:Nat,v<N->(v:Int)∉nb v
structure Cso (nb:Nat->List Int) (N:Nat) (C:List Int):Prop where
 len:C.length=N
 rng:∀c∈C,-1<=c/\c<65
 pro:∀u v:Nat,u<N->v<N->(v:Int)∈nb u->0<=C.getD u (-1)->C.getD u (-1)≠C.getD v (-1)
/- What slices.Index of bools and slices.Repeat of one number return. -/
def bls (l:List Bool):List AV:=l.map AV.bool
/- What masks.All and masks.Bit return. -/
def isU (z:Nat):Option (AV × Heap)->Bool
 |some (.int .u64 x,[])=>decide (x=(z:Int))
 |_=>false
theorem aeH {z:Nat} {r:Option (AV × Heap)} (h:isU z r=true):r=some (.int .u64 (z:Int),[]):=by
 unfold isU at h;split at h
 ·rw[of_decide_eq_true h]
 ·cases h
theorem aeo:((eF 65).all fun n=>isU (2 ^ n-1) (mj an 100 SF [.int .i64 n] []))=true:=by kernel_rfl
theorem aen (n:Nat) (h:n<=64):bu an SF [.int .i64 n] []=some (.int .u64 ((2 ^ n-1:Nat):Int),[]):=
 ia.2 ⟨100,aeH (ph.1 aeo n (iG.2 (by omega)))⟩
theorem ael:((eF 64).all fun n=>isU (2 ^ n) (mj an 100 nQE [.int .i64 n] []))=true:=by kernel_rfl
theorem Ek (n:Nat) (h:n<64):bu an nQE [.int .i64 n] []=some (.int .u64 ((2 ^ n:Nat):Int),[]):=
 ia.2 ⟨100,aeH (ph.1 ael n (iG.2 (by omega)))⟩
theorem KR (x:Nat) (h0:x≠0) (hx:x<18446744073709551616):bu an SE [.int .u64 x] []=some (.int .i64 (tz x:Nat),[]):=by
 have t:=acf x h0 hx;rw[eO sQa3 (aB rfl)];generalize tz x=y at *;unfold qQa3 cQa3;simp[ade,adb,t,sQa8,iQa8,aJ,aL,bz,cM,dG,aI,aP,aH,ah,aN,aZ,bM,bI]
end Go.BmP
/- What maxclique.Colour returns: the greedy colouring in the order given. -/

set_option maxHeartbeats 8000000
namespace Go.BmP
open Go.Am Go.Bm
def KO (N:Nat) (Es:List Ed) (v:Nat):List Int:=HG N Es (v:Int)
def cTk (C W:List Int) (j:Nat):List Bool:=tkn (ncl C (W.take j))
def coSt (B:Vf) (C:List Int) (v:Int) (A:AV) (n i:Int) (W:List Int) (j:Int) (T:List Bool) (J:Env):St:=
 ⟨(2,.ptr 0 0)::(7,.own 1 (ints C))::(9,.int .i64 v)::(10,.ptr 1 0)::(36,A)::(37,.int .i64 n)::(38,.int .i64 i)::(44,.list 1 (ints W))::(45,.int .i64 W.length)::(46,.int .i64 j)::J,[B,some (bls T)]⟩
/- maxclique.Colour as a whole. -/
/- Two sides, one first: two colours at most; a proper colouring stays proper without an edge. -/
/- What maxclique.Colour returns. -/
end Go.BmP
