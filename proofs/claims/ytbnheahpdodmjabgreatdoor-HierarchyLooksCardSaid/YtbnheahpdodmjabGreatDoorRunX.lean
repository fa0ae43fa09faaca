/- Plain facts for runs by rewriting: rows of ints, appends. -/
import Derived.Test.YtbnheahpdodmjabGreatDoorRunL
set_option linter.unusedVariables false
open List renaming map_cons → eQ
namespace Go.Bm
open Go.Am
theorem lT (l:List Int):aC (ints l)=ints l:=by
 induction l with
 |nil=>rfl
 |cons x r ih=>simp only[ints,eQ,aC,AV.cells] at ih ⊢; rw[ih]; rfl
theorem Sh (l:List Int):bF (ints l)=true:=by
 induction l with
 |nil=>rfl
 |cons x r ih=>simp only[ints,eQ,bF,AV.leaf] at ih ⊢; rw[ih]; rfl
theorem EC (l:List Int):dc (ints l)=true:=by
 induction l with
 |nil=>rfl
 |cons x r ih=>simp only[ints,eQ,dc,pl] at ih ⊢; rw[ih]; rfl
theorem cZ (l:List Int) (x:Int):ints l++[.int .i64 x]=ints (l++[x]):=by simp[ints]
theorem U7 (l m:List Int):ints l++ints m=ints (l++m):=by simp[ints]
theorem dh (l:List Int) (n:Nat):(ints l).take n=ints (l.take n):=by simp[ints]
theorem gz (l:List Int) (n:Nat):(ints l).drop n=ints (l.drop n):=by simp[ints]
theorem dT:ints []=[]:=rfl
theorem kc (x:Int) (l:List Int):ints (x::l)=.int .i64 x::ints l:=rfl
theorem I9 {i:Nat} (h:i<9223372036854775808):IntKind.i64.wrap (i:Int)=(i:Int):=qD (by omega) (by omega)
theorem dA {i:Nat} (h:i<9223372036854775807):IntKind.i64.wrap ((i:Int)+1)=((i+1:Nat):Int):=by rw[qD (by omega) (by omega)]; omega
theorem adz {c:eS} {f:Nat} {md:Md} {q:fM} {args:List AV} {H:Heap} (ho:NO c f args H=none) (hf:c.fn f=some (md,q)) (hl:args.length<=q.n):bJ c f args H=bL c md q H.length (aW c H.length q.body ⟨dP 0 args,H⟩):=by
 unfold bJ pR;simp only[ho,hf,hl,if_true];generalize aW c H.length q.body ⟨dP 0 args,H⟩=z;cases z with
 |none=>rfl
 |some w=>
   obtain⟨e,s⟩:=w;cases e<;>rfl
theorem Qu {c:eS} {f:Nat} {args:List AV} {H:Heap} {r:AV × Heap} (h:NO c f args H=some r):bJ c f args H=some r:=by
 unfold bJ pR;rw[h]
theorem fH:((0:Nat):Int)=0:=rfl
theorem aS {c:eS} {b:Nat} {x:C} {s s':St} (h:aW c b x s=some (.normal,s')):aW c b (.loop x) s=aW c b (.loop x) s':=by rw[uB,h]; rfl
theorem bn {c:eS} {b:Nat} {x:C} {s s':St} {i:Nat} (h:aW c b x s=some (.exit i,s')):aW c b (.loop x) s=some (.exit i,s'):=by rw[uB,h]; rfl
theorem dM {c:eS} {b:Nat} {x:C} {s s':St} (h:aW c b x s=some (.ret,s')):aW c b (.loop x) s=some (.ret,s'):=by rw[uB,h]; rfl
theorem o7 {c:eS} {b:Nat} {y:C} {s:St}:Ot c b y (some (.normal,s))=aW c b y s:=rfl
theorem ahB {c:eS} {b:Nat} {y:C} {s:St} {i:Nat}:Ot c b y (some (.exit i,s))=some (.exit i,s):=rfl
theorem ahA {c:eS} {b:Nat} {y:C} {s:St}:Ot c b y (some (.ret,s))=some (.ret,s):=rfl
theorem am6 {i:Nat} {s:St}:blkL i (some (.normal,s))=some (.normal,s):=rfl
theorem ahc {i j:Nat} {s:St}:blkL i (some (.exit j,s))=if j=i then some (.normal,s) else some (.exit j,s):=rfl
theorem am5 {i:Nat} {s:St}:blkL i (some (.ret,s))=some (.ret,s):=rfl
theorem ai9 {c:eS} {b:Nat} {x y:C} {s:St} {t:Bool}:akH c b x y s (.bool t)=if t=true then aW c b x s else aW c b y s:=rfl
theorem aec {dr:Bool} {os:List O} {un:List (Nat × Nat)} {b:Nat} {keep:List Nat} {s:St} {sP:List Fq}:regL dr os un b keep (some (s,sP))=if dr=false\/Qg os sP un=true then (match Yp b keep s with
 |some s2=>some (.normal,s2)
 |none=>none) else none:=rfl
theorem ang:IntKind.i64.wrap 0=0:=by decide
theorem anf:IntKind.i64.wrap 1=1:=by decide
theorem akO:IntKind.i64.wrap (-1)=-1:=by decide
theorem adE {i:Int} {j:Nat} (e:i=(j:Int)) (h:j<9223372036854775808):IntKind.i64.wrap i=i:=by subst e; exact I9 h
theorem Ou (l:List Int) (x:Int):(l++[x]).take (l.length+1)=l++[x]:=List.take_of_length_le (by simp)
theorem WO {l:List Int} {i:Nat} (h:l.length=i) (x:Int):(l.take i++[x]).take (i+1)=l++[x]:=by subst h; rw[List.take_length,Ou]
end Go.Bm
