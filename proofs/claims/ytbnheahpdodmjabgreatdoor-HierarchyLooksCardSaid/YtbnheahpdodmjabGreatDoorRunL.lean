/- Rules for runs by rewriting. -/
import Derived.Test.YtbnheahpdodmjabGreatDoorMe
set_option linter.unusedVariables false
namespace Go.Bm
open Go.Am
noncomputable def akH (c:eS) (b:Nat) (x y:C) (s:St):AV->Option (Ex × St)
 |.bool t=>if t=true then aW c b x s else aW c b y s
 |_=>none
theorem Qm {c:eS} {b:Nat} {v:E} {x y:C} {s:St}:aW c b (.cond v x y) s=akH c b x y s (bq c s.env v):=by
 by_cases h:∃t,bq c s.env v=.bool t
 ·obtain⟨t,h⟩:=h;rw[YB h,h];rfl
 ·have hn:aW c b (.cond v x y) s=none:=by
   cases e:aW c b (.cond v x y) s with
   |none=>rfl
   |some z=>
     obtain⟨n,hn⟩:=dt.1 e;cases n with
     |zero=>simp[df] at hn
     |succ n=>
       simp only[df] at hn;split at hn
       ·rename_i t ht; exact absurd ⟨t,ht⟩ h
       ·cases hn
  rw[hn];cases e:bq c s.env v<;>first|rfl|exact absurd ⟨_,e⟩ h
def bL (c:eS) (md:Md) (q:fM) (b:Nat):Option (Ex × St)->Option (AV × Heap)
 |some (.ret,s)=>(match sU c s q.res with
   |some vs=>bC md b s (qQ vs)
   |none=>none)
 |some (.normal,s)=>(match sU c s q.res with
   |some vs=>bC md b s (qQ vs)
   |none=>none)
 |_=>none
theorem qz {c:eS} {f:Nat} {md:Md} {q:fM} {args:List AV} {H:Heap} (ho:c.orc f=none) (hf:c.fn f=some (md,q)) (hl:args.length<=q.n):bJ c f args H=bL c md q H.length (aW c H.length q.body ⟨dP 0 args,H⟩):=by
 rw[ag7 ho hf hl];generalize aW c H.length q.body ⟨dP 0 args,H⟩=z;cases z with
 |none=>rfl
 |some w=>
   obtain⟨e,s⟩:=w;cases e<;>rfl
theorem dZ {c:eS} {f:Nat} {md:Md} {q:fM} {args:List AV} {H:Heap} (hf:c.fn f=some (md,q)) (hl:args.length<=q.n) (ho:c.orc f=none:=by rfl):bJ c f args H=bL c md q H.length (aW c H.length q.body ⟨dP 0 args,H⟩):=qz ho hf hl
theorem agA (i:Nat):Am.get [] i=.any:=rfl
theorem P0 (j:Nat) (u:AV) (r:Env) (i:Nat):Am.get ((j,u)::r) i=if i=j then u else Am.get r i:=rfl
theorem ae2 (i:Nat) (v:AV):Am.put [] i v=[(i,v)]:=rfl
theorem acT (j:Nat) (u:AV) (r:Env) (i:Nat) (v:AV):Am.put ((j,u)::r) i v=if i<j then (i,v)::(j,u)::r else if i=j then (i,v)::r else (j,u)::Am.put r i v:=rfl
theorem Uo (i:Nat):mem i []=false:=rfl
theorem PA (i j:Nat) (r:List Nat):mem i (j::r)=if i=j then true else mem i r:=rfl
def ints (l:List Int):List AV:=l.map (AV.int .i64)
theorem ah (l:List Int):(ints l).length=l.length:=List.length_map _
theorem aQ (l:List Int) (i:Nat):(ints l)[i]?=(l[i]?).map (AV.int .i64):=List.getElem?_map
theorem bu (l:List Int) (i:Nat) (h:i<(ints l).length):(ints l)[i]=.int .i64 (l[i]'(by simpa[ints] using h)):=by simp[ints]
theorem Dx {k:IntKind} {i:Int} {n:Nat} (h0:0<=i) (h1:i<(n:Int)):idx (.int k i) n=some i.toNat:=by
 simp[idx,h0,h1]
theorem qD {i:Int} (h0:-9223372036854775808<=i) (h1:i<9223372036854775808):IntKind.i64.wrap i=i:=by
 simp[IntKind.wrap,IntKind.bits,IntKind.signed];omega
end Go.Bm
