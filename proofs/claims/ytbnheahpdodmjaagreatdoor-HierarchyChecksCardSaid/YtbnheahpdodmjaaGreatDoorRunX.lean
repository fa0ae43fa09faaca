/- Plain facts for runs by rewriting: rows of ints, appends. -/
import Derived.Test.YtbnheahpdodmjaaGreatDoorRunL
set_option linter.unusedVariables false
open List renaming map_cons → dp
namespace Go.Bm
open Go.Am
theorem lJ (l:List Int):aA (ints l)=ints l:=by
 induction l with
 |nil=>rfl
 |cons x r ih=>simp only[ints,dp,aA,AV.cells] at ih ⊢; rw[ih]; rfl
theorem QM (l:List Int):bC (ints l)=true:=by
 induction l with
 |nil=>rfl
 |cons x r ih=>simp only[ints,dp,bC,AV.leaf] at ih ⊢; rw[ih]; rfl
theorem D0 (l:List Int):dq (ints l)=true:=by
 induction l with
 |nil=>rfl
 |cons x r ih=>simp only[ints,dp,dq,pl] at ih ⊢; rw[ih]; rfl
theorem dZ (l:List Int) (x:Int):ints l++[.int .i64 x]=ints (l++[x]):=by simp[ints]
theorem TD (l m:List Int):ints l++ints m=ints (l++m):=by simp[ints]
theorem cO (l:List Int) (n:Nat):(ints l).take n=ints (l.take n):=by simp[ints]
theorem fZ (l:List Int) (n:Nat):(ints l).drop n=ints (l.drop n):=by simp[ints]
theorem dE:ints []=[]:=rfl
theorem jV (x:Int) (l:List Int):ints (x::l)=.int .i64 x::ints l:=rfl
theorem yL {i:Nat} (h:i<9223372036854775808):IntKind.i64.wrap (i:Int)=(i:Int):=nn (by omega) (by omega)
theorem dO {i:Nat} (h:i<9223372036854775807):IntKind.i64.wrap ((i:Int)+1)=((i+1:Nat):Int):=by rw[nn (by omega) (by omega)]; omega
theorem ab8 {c:eI} {f:Nat} {md:Md} {q:fW} {args:List AV} {H:Heap} (ho:MP c f args H=none) (hf:c.fn f=some (md,q)) (hl:args.length<=q.n):bu c f args H=bM c md q H.length (aY c H.length q.body ⟨dH 0 args,H⟩):=by
 unfold bu o9;simp only[ho,hf,hl,if_true];generalize aY c H.length q.body ⟨dH 0 args,H⟩=z;cases z with
 |none=>rfl
 |some w=>
   obtain⟨e,s⟩:=w;cases e<;>rfl
theorem O8 {c:eI} {f:Nat} {args:List AV} {H:Heap} {r:AV × Heap} (h:MP c f args H=some r):bu c f args H=some r:=by
 unfold bu o9;rw[h]
theorem fU:((0:Nat):Int)=0:=rfl
theorem aV {c:eI} {b:Nat} {x:C} {s s':St} (h:aY c b x s=some (.normal,s')):aY c b (.loop x) s=aY c b (.loop x) s':=by rw[tF,h]; rfl
theorem bt {c:eI} {b:Nat} {x:C} {s s':St} {i:Nat} (h:aY c b x s=some (.exit i,s')):aY c b (.loop x) s=some (.exit i,s'):=by rw[tF,h]; rfl
theorem cZ {c:eI} {b:Nat} {x:C} {s s':St} (h:aY c b x s=some (.ret,s')):aY c b (.loop x) s=some (.ret,s'):=by rw[tF,h]; rfl
theorem oC {c:eI} {b:Nat} {y:C} {s:St}:Nn c b y (some (.normal,s))=aY c b y s:=rfl
theorem afZ {c:eI} {b:Nat} {y:C} {s:St} {i:Nat}:Nn c b y (some (.exit i,s))=some (.exit i,s):=rfl
theorem afY {c:eI} {b:Nat} {y:C} {s:St}:Nn c b y (some (.ret,s))=some (.ret,s):=rfl
theorem aly {i:Nat} {s:St}:blkL i (some (.normal,s))=some (.normal,s):=rfl
theorem afA {i j:Nat} {s:St}:blkL i (some (.exit j,s))=if j=i then some (.normal,s) else some (.exit j,s):=rfl
theorem alx {i:Nat} {s:St}:blkL i (some (.ret,s))=some (.ret,s):=rfl
theorem ahE {c:eI} {b:Nat} {x y:C} {s:St} {t:Bool}:ai1 c b x y s (.bool t)=if t=true then aY c b x s else aY c b y s:=rfl
theorem acG {dr:Bool} {os:List O} {un:List (Nat × Nat)} {b:Nat} {keep:List Nat} {s:St} {rW:List Fq}:regL dr os un b keep (some (s,rW))=if dr=false\/OS os rW un=true then (match WW b keep s with
 |some s2=>some (.normal,s2)
 |none=>none) else none:=rfl
theorem alG:IntKind.i64.wrap 0=0:=by decide
theorem alF:IntKind.i64.wrap 1=1:=by decide
theorem ai8:IntKind.i64.wrap (-1)=-1:=by decide
theorem Nf {i:Int} {j:Nat} (e:i=(j:Int)) (h:j<9223372036854775808):IntKind.i64.wrap i=i:=by subst e; exact yL h
theorem Np (l:List Int) (x:Int):(l++[x]).take (l.length+1)=l++[x]:=List.take_of_length_le (by simp)
theorem Vt {l:List Int} {i:Nat} (h:l.length=i) (x:Int):(l.take i++[x]).take (i+1)=l++[x]:=by subst h; rw[List.take_length,Np]
end Go.Bm
