/- Plain facts for runs by rewriting: rows of ints, appends. -/
import Derived.Test.YtmildmgogdmknaaGreatDoorRunL
set_option linter.unusedVariables false
open List renaming map_cons → kA
namespace Go.Bm
open Go.Am
theorem gT (l:List Int):aI (ints l)=ints l:=by
 induction l with
 |nil=>rfl
 |cons x r ih=>simp only[ints,kA,aI,AV.cells] at ih ⊢; rw[ih]; rfl
theorem RZ (l:List Int):bG (ints l)=true:=by
 induction l with
 |nil=>rfl
 |cons x r ih=>simp only[ints,kA,bG,AV.leaf] at ih ⊢; rw[ih]; rfl
theorem cY (l:List Int):dP (ints l)=true:=by
 induction l with
 |nil=>rfl
 |cons x r ih=>simp only[ints,kA,dP,pl] at ih ⊢; rw[ih]; rfl
theorem er (l:List Int) (x:Int):ints l++[.int .i64 x]=ints (l++[x]):=by simp[ints]
theorem Lm (l m:List Int):ints l++ints m=ints (l++m):=by simp[ints]
theorem cq (l:List Int) (n:Nat):(ints l).take n=ints (l.take n):=by simp[ints]
theorem gg (l:List Int) (n:Nat):(ints l).drop n=ints (l.drop n):=by simp[ints]
theorem c8:ints []=[]:=rfl
theorem lf (x:Int) (l:List Int):ints (x::l)=.int .i64 x::ints l:=rfl
theorem yR {i:Nat} (h:i<9223372036854775808):IntKind.i64.wrap (i:Int)=(i:Int):=fE (by omega) (by omega)
theorem dM {i:Nat} (h:i<9223372036854775807):IntKind.i64.wrap ((i:Int)+1)=((i+1:Nat):Int):=by rw[fE (by omega) (by omega)]; omega
theorem ab2 {c:fe} {f:Nat} {md:Md} {q:fK} {args:List AV} {H:Heap} (ho:QP c f args H=none) (hf:c.fn f=some (md,q)) (hl:args.length<=q.n):bp c f args H=bk c md q H.length (aW c H.length q.body ⟨eC 0 args,H⟩):=by
 unfold bp nV;simp only[ho,hf,hl,if_true];generalize aW c H.length q.body ⟨eC 0 args,H⟩=z;cases z with
 |none=>rfl
 |some w=>
   obtain⟨e,s⟩:=w;cases e<;>rfl
theorem ab1 {c:fe} {f:Nat} {args:List AV} {H:Heap} {r:AV × Heap} (h:QP c f args H=some r):bp c f args H=some r:=by
 unfold bp nV;rw[h]
theorem fi:((0:Nat):Int)=0:=rfl
theorem aS {c:fe} {b:Nat} {x:C} {s s':St} (h:aW c b x s=some (.normal,s')):aW c b (.loop x) s=aW c b (.loop x) s':=by rw[tl,h]; rfl
theorem bq {c:fe} {b:Nat} {x:C} {s s':St} {i:Nat} (h:aW c b x s=some (.exit i,s')):aW c b (.loop x) s=some (.exit i,s'):=by rw[tl,h]; rfl
theorem dp {c:fe} {b:Nat} {x:C} {s s':St} (h:aW c b x s=some (.ret,s')):aW c b (.loop x) s=some (.ret,s'):=by rw[tl,h]; rfl
theorem fO {c:fe} {b:Nat} {y:C} {s:St}:yU c b y (some (.normal,s))=aW c b y s:=rfl
theorem PX {c:fe} {b:Nat} {y:C} {s:St} {i:Nat}:yU c b y (some (.exit i,s))=some (.exit i,s):=rfl
theorem af4 {c:fe} {b:Nat} {y:C} {s:St}:yU c b y (some (.ret,s))=some (.ret,s):=rfl
theorem afG {i:Nat} {s:St}:blkL i (some (.normal,s))=some (.normal,s):=rfl
theorem L5 {i j:Nat} {s:St}:blkL i (some (.exit j,s))=if j=i then some (.normal,s) else some (.exit j,s):=rfl
theorem al8 {i:Nat} {s:St}:blkL i (some (.ret,s))=some (.ret,s):=rfl
theorem ahA {c:fe} {b:Nat} {x y:C} {s:St} {t:Bool}:ajo c b x y s (.bool t)=if t=true then aW c b x s else aW c b y s:=rfl
theorem acE {dr:Bool} {os:List O} {un:List (Nat × Nat)} {b:Nat} {keep:List Nat} {s:St} {rH:List Fq}:regL dr os un b keep (some (s,rH))=if dr=false\/Pt os rH un=true then (match Xr b keep s with
 |some s2=>some (.normal,s2)
 |none=>none) else none:=rfl
theorem amh:IntKind.i64.wrap 0=0:=by decide
theorem amg:IntKind.i64.wrap 1=1:=by decide
theorem ajz:IntKind.i64.wrap (-1)=-1:=by decide
theorem Nl {i:Int} {j:Nat} (e:i=(j:Int)) (h:j<9223372036854775808):IntKind.i64.wrap i=i:=by subst e; exact yR h
theorem Nv (l:List Int) (x:Int):(l++[x]).take (l.length+1)=l++[x]:=List.take_of_length_le (by simp)
theorem Jh {l:List Int} {i:Nat} (h:l.length=i) (x:Int):(l.take i++[x]).take (i+1)=l++[x]:=by subst h; rw[List.take_length,Nv]
end Go.Bm
