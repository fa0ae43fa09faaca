/- Rules for runs by rewriting. -/
import Derived.Test.YtbnheahpdodmjaaGreatDoorMe
set_option linter.unusedVariables false
namespace Go.Bm
open Go.Am
noncomputable def ai1 (c:eI) (b:Nat) (x y:C) (s:St):AV->Option (Ex × St)
 |.bool t=>if t=true then aY c b x s else aY c b y s
 |_=>none
theorem OY {c:eI} {b:Nat} {v:E} {x y:C} {s:St}:aY c b (.cond v x y) s=ai1 c b x y s (bp c s.env v):=by
 by_cases h:∃t,bp c s.env v=.bool t
 ·obtain⟨t,h⟩:=h;rw[Xa h,h];rfl
 ·have hn:aY c b (.cond v x y) s=none:=by
   cases e:aY c b (.cond v x y) s with
   |none=>rfl
   |some z=>
     obtain⟨n,hn⟩:=df.1 e;cases n with
     |zero=>simp[cW] at hn
     |succ n=>
       simp only[cW] at hn;split at hn
       ·rename_i t ht; exact absurd ⟨t,ht⟩ h
       ·cases hn
  rw[hn];cases e:bp c s.env v<;>first|rfl|exact absurd ⟨_,e⟩ h
def amT (c:eI) (md:Md) (q:fW):Option (Ex × St)->Bool
 |some (.ret,s)=>(match sd c s q.res with
   |some vs=>(match bI md 0 s (qq vs) with
     |some (.bool true,[])=>true
     |_=>false)
   |none=>false)
 |_=>false
def bM (c:eI) (md:Md) (q:fW) (b:Nat):Option (Ex × St)->Option (AV × Heap)
 |some (.ret,s)=>(match sd c s q.res with
   |some vs=>bI md b s (qq vs)
   |none=>none)
 |some (.normal,s)=>(match sd c s q.res with
   |some vs=>bI md b s (qq vs)
   |none=>none)
 |_=>none
theorem p7 {c:eI} {f:Nat} {md:Md} {q:fW} {args:List AV} {H:Heap} (ho:c.orc f=none) (hf:c.fn f=some (md,q)) (hl:args.length<=q.n):bu c f args H=bM c md q H.length (aY c H.length q.body ⟨dH 0 args,H⟩):=by
 rw[afx ho hf hl];generalize aY c H.length q.body ⟨dH 0 args,H⟩=z;cases z with
 |none=>rfl
 |some w=>
   obtain⟨e,s⟩:=w;cases e<;>rfl
theorem eO {c:eI} {f:Nat} {md:Md} {q:fW} {args:List AV} {H:Heap} (hf:c.fn f=some (md,q)) (hl:args.length<=q.n) (ho:c.orc f=none:=by rfl):bu c f args H=bM c md q H.length (aY c H.length q.body ⟨dH 0 args,H⟩):=p7 ho hf hl
theorem aeZ (i:Nat):Am.get [] i=.any:=rfl
theorem OG (j:Nat) (u:AV) (r:Env) (i:Nat):Am.get ((j,u)::r) i=if i=j then u else Am.get r i:=rfl
theorem ado (i:Nat) (v:AV):Am.put [] i v=[(i,v)]:=rfl
theorem abz (j:Nat) (u:AV) (r:Env) (i:Nat) (v:AV):Am.put ((j,u)::r) i v=if i<j then (i,v)::(j,u)::r else if i=j then (i,v)::r else (j,u)::Am.put r i v:=rfl
theorem SQ (i:Nat):mem i []=false:=rfl
theorem Ol (i j:Nat) (r:List Nat):mem i (j::r)=if i=j then true else mem i r:=rfl
def ints (l:List Int):List AV:=l.map (AV.int .i64)
theorem ah (l:List Int):(ints l).length=l.length:=List.length_map _
theorem aN (l:List Int) (i:Nat):(ints l)[i]?=(l[i]?).map (AV.int .i64):=List.getElem?_map
theorem aZ (l:List Int) (i:Nat) (h:i<(ints l).length):(ints l)[i]=.int .i64 (l[i]'(by simpa[ints] using h)):=by simp[ints]
theorem CU {k:IntKind} {i:Int} {n:Nat} (h0:0<=i) (h1:i<(n:Int)):idx (.int k i) n=some i.toNat:=by
 simp[idx,h0,h1]
theorem nn {i:Int} (h0:-9223372036854775808<=i) (h1:i<9223372036854775808):IntKind.i64.wrap i=i:=by
 simp[IntKind.wrap,IntKind.bits,IntKind.signed];omega
end Go.Bm
