/- Rules for runs by rewriting. -/
import Derived.Test.YtpimmjklbakckaaGreatDoorMe
set_option linter.unusedVariables false
namespace Go.Bm
open Go.Am
noncomputable def adT (c:dO) (b:Nat) (x y:C) (s:St):AV->Option (Ex × St)
 |.bool t=>if t=true then bg c b x s else bg c b y s
 |_=>none
theorem JI {c:dO} {b:Nat} {v:E} {x y:C} {s:St}:bg c b (.cond v x y) s=adT c b x y s (aY c s.env v):=by
 by_cases h:∃t,aY c s.env v=.bool t
 ·obtain⟨t,h⟩:=h;rw[Q5 h,h];rfl
 ·have hn:bg c b (.cond v x y) s=none:=by
   cases e:bg c b (.cond v x y) s with
   |none=>rfl
   |some z=>
     obtain⟨n,hn⟩:=cQ.1 e;cases n with
     |zero=>simp[cG] at hn
     |succ n=>
       simp only[cG] at hn;split at hn
       ·rename_i t ht; exact absurd ⟨t,ht⟩ h
       ·cases hn
  rw[hn];cases e:aY c s.env v<;>first|rfl|exact absurd ⟨_,e⟩ h
def ahE (c:dO) (md:Md) (q:gH):Option (Ex × St)->Bool
 |some (.ret,s)=>(match qM c s q.res with
   |some vs=>(match bR md 0 s (ob vs) with
     |some (.bool true,[])=>true
     |_=>false)
   |none=>false)
 |_=>false
def cc (c:dO) (md:Md) (q:gH) (b:Nat):Option (Ex × St)->Option (AV × Heap)
 |some (.ret,s)=>(match qM c s q.res with
   |some vs=>bR md b s (ob vs)
   |none=>none)
 |some (.normal,s)=>(match qM c s q.res with
   |some vs=>bR md b s (ob vs)
   |none=>none)
 |_=>none
theorem nJ {c:dO} {f:Nat} {md:Md} {q:gH} {args:List AV} {H:Heap} (ho:c.orc f=none) (hf:c.fn f=some (md,q)) (hl:args.length<=q.n):bU c f args H=cc c md q H.length (bg c H.length q.body ⟨dN 0 args,H⟩):=by
 rw[aaq ho hf hl];generalize bg c H.length q.body ⟨dN 0 args,H⟩=z;cases z with
 |none=>rfl
 |some w=>
   obtain⟨e,s⟩:=w;cases e<;>rfl
theorem fK {c:dO} {f:Nat} {md:Md} {q:gH} {args:List AV} {H:Heap} (hf:c.fn f=some (md,q)) (hl:args.length<=q.n) (ho:c.orc f=none:=by rfl):bU c f args H=cc c md q H.length (bg c H.length q.body ⟨dN 0 args,H⟩):=nJ ho hf hl
theorem ZT (i:Nat):Am.get [] i=.any:=rfl
theorem Jr (j:Nat) (u:AV) (r:Env) (i:Nat):Am.get ((j,u)::r) i=if i=j then u else Am.get r i:=rfl
theorem X4 (i:Nat) (v:AV):Am.put [] i v=[(i,v)]:=rfl
theorem VR (j:Nat) (u:AV) (r:Env) (i:Nat) (v:AV):Am.put ((j,u)::r) i v=if i<j then (i,v)::(j,u)::r else if i=j then (i,v)::r else (j,u)::Am.put r i v:=rfl
theorem M8 (i:Nat):mem i []=false:=rfl
theorem Jd (i j:Nat) (r:List Nat):mem i (j::r)=if i=j then true else mem i r:=rfl
def ints (l:List Int):List AV:=l.map (AV.int .i64)
theorem ah (l:List Int):(ints l).length=l.length:=List.length_map _
theorem aU (l:List Int) (i:Nat):(ints l)[i]?=(l[i]?).map (AV.int .i64):=List.getElem?_map
theorem bm (l:List Int) (i:Nat) (h:i<(ints l).length):(ints l)[i]=.int .i64 (l[i]'(by simpa[ints] using h)):=by simp[ints]
theorem KI {k:IntKind} {i:Int} {n:Nat} (h0:0<=i) (h1:i<(n:Int)):idx (.int k i) n=some i.toNat:=by
 simp[idx,h0,h1]
theorem sg {i:Int} (h0:-9223372036854775808<=i) (h1:i<9223372036854775808):IntKind.i64.wrap i=i:=by
 simp[IntKind.wrap,IntKind.bits,IntKind.signed];omega
end Go.Bm
