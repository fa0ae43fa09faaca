/- What slices.Equal returns (E01's head). -/
import Derived.KernelRfl
import Derived.Test.YtpimmjklbakckaaDoorX11
import Derived.Test.YtpimmjklbakckaaDoorR02k
set_option linter.unusedSimpArgs false
set_option linter.unusedVariables false
set_option maxRecDepth 100000
set_option maxHeartbeats 4000000
open List renaming all_eq_true → rT, mem_range → qt, range → fc
namespace Go.BmP
open Go.Am Go.Bm
/- Greedy colourings, in plain words: they are proper, and two colours are enough if one side comes first. -/
def tkn (L:List Int):List Bool:=(fc 65).map fun (c:Nat)=>decide ((c:Int)∈L)
def mex (L:List Int):Nat:=(tkn L).findIdx fun b=>!b
def ncl (C:List Int) (W:List Int):List Int:=W.filterMap fun w=>if 0<=C.getD w.toNat (-1) then some (C.getD w.toNat (-1)) else none
def stc (nb:Nat->List Int) (C:List Int) (v:Int):List Int:=C.set v.toNat (mex (ncl C (nb v.toNat)):Nat)
def grc (nb:Nat->List Int) (N:Nat) (O:List Int):List Int:=O.foldl (stc nb) (List.replicate N (-1))
structure NbOK (nb:Nat->List Int) (N:Nat):Prop where
 len:∀v,v<N->(nb v).length<65
 YL:∀v,v<N->∀w∈nb v,0<=w/\w<N
 sym:∀u v:Nat,u<N->v<N->(v:Int)∈nb u->(u:Int)∈nb v
 irr:∀v:Nat,v<N->(v:Int)∉nb v
structure Cso (nb:Nat->List Int) (N:Nat) (C:List Int):Prop where
 len:C.length=N
 YL:∀c∈C,-1<=c/\c<65
 pro:∀u v:Nat,u<N->v<N->(v:Int)∈nb u->0<=C.getD u (-1)->C.getD u (-1)≠C.getD v (-1)
/- What slices.Index of bools and slices.Repeat of one number return. -/
def bls (l:List Bool):List AV:=l.map AV.bool
/- What masks.All and masks.Bit return. -/
def isU (z:Nat):Option (AV × Heap)->Bool
 |some (.int .u64 x,[])=>decide (x=(z:Int))
 |_=>false
theorem WD {z:Nat} {r:Option (AV × Heap)} (h:isU z r=true):r=some (.int .u64 (z:Int),[]):=by
 unfold isU at h;split at h
 ·rw[of_decide_eq_true h]
 ·cases h
theorem Wk:((fc 65).all fun n=>isU (2 ^ n-1) (kA aD 100 nQP [.int .i64 n] []))=true:=by kernel_rfl
theorem Wj (n:Nat) (h:n<=64):bS aD nQP [.int .i64 n] []=some (.int .u64 ((2 ^ n-1:Nat):Int),[]):=
 gH.2 ⟨100,WD (rT.1 Wk n (qt.2 (by omega)))⟩
theorem Wh:((fc 64).all fun n=>isU (2 ^ n) (kA aD 100 Uq [.int .i64 n] []))=true:=by kernel_rfl
theorem zL (n:Nat) (h:n<64):bS aD Uq [.int .i64 n] []=some (.int .u64 ((2 ^ n:Nat):Int),[]):=
 gH.2 ⟨100,WD (rT.1 Wh n (qt.2 (by omega)))⟩
theorem D8 (x:Nat) (h0:x≠0) (hx:x<18446744073709551616):bS aD nQQ [.int .u64 x] []=some (.int .i64 (tz x:Nat),[]):=by
 have t:=UB x h0 hx;rw[fZ sQQ (Nat.le_of_ble_eq_true rfl)];generalize tz x=y at *;unfold qQQ cQQ;simp[abD,abC,t,sQV,iQV,aN,bf,bW,dF,fh,aY,bj,aX,ah,aZ,bG,cB,bU]
end Go.BmP
/- What maxclique.Colour returns: the greedy colouring in the order given. -/

set_option maxHeartbeats 8000000
namespace Go.BmP
open Go.Am Go.Bm
def nbF9 (N:Nat) (Es:List Ed) (v:Nat):List Int:=nbr N Es (v:Int)
def cTk (C W:List Int) (j:Nat):List Bool:=tkn (ncl C (W.take j))
def coSt (B:OP) (C:List Int) (v:Int) (A:AV) (n i:Int) (W:List Int) (j:Int) (T:List Bool) (J:Env):St:=
 ⟨(2,.ptr 0 0)::(7,.own 1 (ints C))::(9,.int .i64 v)::(10,.ptr 1 0)::(36,A)::(37,.int .i64 n)::(38,.int .i64 i)::(44,.list 1 (ints W))::(45,.int .i64 W.length)::(46,.int .i64 j)::J,[B,some (bls T)]⟩
/- maxclique.Colour as a whole. -/
/- What maxclique.Colour returns. -/
end Go.BmP
