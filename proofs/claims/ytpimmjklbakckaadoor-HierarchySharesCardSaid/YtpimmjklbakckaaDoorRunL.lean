/- Rules for runs by rewriting. -/
import Derived.Test.YtpimmjklbakckaaDoorMe
set_option linter.unusedVariables false
namespace Go.Bm
open Go.Am
noncomputable def ab2 (c:dM) (b:Nat) (x y:C) (s:St):AV->Option (Ex × St)
 |.bool t=>if t=true then bh c b x s else bh c b y s
 |_=>none
theorem Hp {c:dM} {b:Nat} {v:E} {x y:C} {s:St}:bh c b (.cond v x y) s=ab2 c b x y s (aR c s.env v):=by
 by_cases h:∃t,aR c s.env v=.bool t
 ·obtain⟨t,h⟩:=h;rw[Ov h,h];rfl
 ·have hn:bh c b (.cond v x y) s=none:=by
   cases e:bh c b (.cond v x y) s with
   |none=>rfl
   |some z=>
     obtain⟨n,hn⟩:=cN.1 e;cases n with
     |zero=>simp[cE] at hn
     |succ n=>
       simp only[cE] at hn;split at hn
       ·rename_i t ht; exact absurd ⟨t,ht⟩ h
       ·cases hn
  rw[hn];cases e:aR c s.env v<;>first|rfl|exact absurd ⟨_,e⟩ h
def afW (c:dM) (md:Md) (q:gR):Option (Ex × St)->Bool
 |some (.ret,s)=>(match p9 c s q.res with
   |some vs=>(match bU md 0 s (nZ vs) with
     |some (.bool true,[])=>true
     |_=>false)
   |none=>false)
 |_=>false
def cB (c:dM) (md:Md) (q:gR) (b:Nat):Option (Ex × St)->Option (AV × Heap)
 |some (.ret,s)=>(match p9 c s q.res with
   |some vs=>bU md b s (nZ vs)
   |none=>none)
 |some (.normal,s)=>(match p9 c s q.res with
   |some vs=>bU md b s (nZ vs)
   |none=>none)
 |_=>none
theorem nJ {c:dM} {f:Nat} {md:Md} {q:gR} {args:List AV} {H:Heap} (ho:c.orc f=none) (hf:c.fn f=some (md,q)) (hl:args.length<=q.n):bS c f args H=cB c md q H.length (bh c H.length q.body ⟨dL 0 args,H⟩):=by
 rw[XK ho hf hl];generalize bh c H.length q.body ⟨dL 0 args,H⟩=z;cases z with
 |none=>rfl
 |some w=>
   obtain⟨e,s⟩:=w;cases e<;>rfl
theorem fZ {c:dM} {f:Nat} {md:Md} {q:gR} {args:List AV} {H:Heap} (hf:c.fn f=some (md,q)) (hl:args.length<=q.n) (ho:c.orc f=none:=by rfl):bS c f args H=cB c md q H.length (bh c H.length q.body ⟨dL 0 args,H⟩):=nJ ho hf hl
theorem Xd (i:Nat):Am.get [] i=.any:=rfl
theorem G8 (j:Nat) (u:AV) (r:Env) (i:Nat):Am.get ((j,u)::r) i=if i=j then u else Am.get r i:=rfl
theorem Vo (i:Nat) (v:AV):Am.put [] i v=[(i,v)]:=rfl
theorem Tg (j:Nat) (u:AV) (r:Env) (i:Nat) (v:AV):Am.put ((j,u)::r) i v=if i<j then (i,v)::(j,u)::r else if i=j then (i,v)::r else (j,u)::Am.put r i v:=rfl
theorem KN (i:Nat):mem i []=false:=rfl
theorem GU (i j:Nat) (r:List Nat):mem i (j::r)=if i=j then true else mem i r:=rfl
def ints (l:List Int):List AV:=l.map (AV.int .i64)
theorem ah (l:List Int):(ints l).length=l.length:=List.length_map _
theorem aZ (l:List Int) (i:Nat):(ints l)[i]?=(l[i]?).map (AV.int .i64):=List.getElem?_map
theorem bG (l:List Int) (i:Nat) (h:i<(ints l).length):(ints l)[i]=.int .i64 (l[i]'(by simpa[ints] using h)):=by simp[ints]
theorem adC {k:IntKind} {i:Int} {n:Nat} (h0:0<=i) (h1:i<(n:Int)):idx (.int k i) n=some i.toNat:=by
 simp[idx,h0,h1]
theorem qc {i:Int} (h0:-9223372036854775808<=i) (h1:i<9223372036854775808):IntKind.i64.wrap i=i:=by
 simp[IntKind.wrap,IntKind.bits,IntKind.signed];omega
end Go.Bm
