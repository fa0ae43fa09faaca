/- Plain facts for runs by rewriting: rows of ints, appends. -/
import Derived.Test.YtpimmjklbakckaaDoorRunL
set_option linter.unusedVariables false
open List renaming map_cons → eJ
namespace Go.Bm
open Go.Am
theorem mI (l:List Int):az (ints l)=ints l:=by
 induction l with
 |nil=>rfl
 |cons x r ih=>simp only[ints,eJ,az,AV.cells] at ih ⊢; rw[ih]; rfl
theorem Jg (l:List Int):bm (ints l)=true:=by
 induction l with
 |nil=>rfl
 |cons x r ih=>simp only[ints,eJ,bm,AV.leaf] at ih ⊢; rw[ih]; rfl
theorem Vy (l:List Int):eC (ints l)=true:=by
 induction l with
 |nil=>rfl
 |cons x r ih=>simp only[ints,eJ,eC,pl] at ih ⊢; rw[ih]; rfl
theorem fY (l:List Int) (x:Int):ints l++[.int .i64 x]=ints (l++[x]):=by simp[ints]
theorem Li (l m:List Int):ints l++ints m=ints (l++m):=by simp[ints]
theorem dC (l:List Int) (n:Nat):(ints l).take n=ints (l.take n):=by simp[ints]
theorem fw (l:List Int) (n:Nat):(ints l).drop n=ints (l.drop n):=by simp[ints]
theorem dT:ints []=[]:=rfl
theorem jS (x:Int) (l:List Int):ints (x::l)=.int .i64 x::ints l:=rfl
theorem Gb {i:Nat} (h:i<9223372036854775808):IntKind.i64.wrap (i:Int)=(i:Int):=qc (by omega) (by omega)
theorem fT {i:Nat} (h:i<9223372036854775807):IntKind.i64.wrap ((i:Int)+1)=((i+1:Nat):Int):=by rw[qc (by omega) (by omega)]; omega
theorem Ub {c:dM} {f:Nat} {md:Md} {q:gR} {args:List AV} {H:Heap} (ho:FP c f args H=none) (hf:c.fn f=some (md,q)) (hl:args.length<=q.n):bS c f args H=cB c md q H.length (bh c H.length q.body ⟨dL 0 args,H⟩):=by
 unfold bS mL;simp only[ho,hf,hl,if_true];generalize bh c H.length q.body ⟨dL 0 args,H⟩=z;cases z with
 |none=>rfl
 |some w=>
   obtain⟨e,s⟩:=w;cases e<;>rfl
theorem HB {c:dM} {f:Nat} {args:List AV} {H:Heap} {r:AV × Heap} (h:FP c f args H=some r):bS c f args H=some r:=by
 unfold bS mL;rw[h]
theorem mB:((0:Nat):Int)=0:=rfl
theorem bI {c:dM} {b:Nat} {x:C} {s s':St} (h:bh c b x s=some (.normal,s')):bh c b (.loop x) s=bh c b (.loop x) s':=by rw[qR,h]; rfl
theorem cv {c:dM} {b:Nat} {x:C} {s s':St} {i:Nat} (h:bh c b x s=some (.exit i,s')):bh c b (.loop x) s=some (.exit i,s'):=by rw[qR,h]; rfl
theorem fF {c:dM} {b:Nat} {x:C} {s s':St} (h:bh c b x s=some (.ret,s')):bh c b (.loop x) s=some (.ret,s'):=by rw[qR,h]; rfl
theorem lX {c:dM} {b:Nat} {y:C} {s:St}:Gi c b y (some (.normal,s))=bh c b y s:=rfl
theorem YA {c:dM} {b:Nat} {y:C} {s:St} {i:Nat}:Gi c b y (some (.exit i,s))=some (.exit i,s):=rfl
theorem Yz {c:dM} {b:Nat} {y:C} {s:St}:Gi c b y (some (.ret,s))=some (.ret,s):=rfl
theorem aeb {i:Nat} {s:St}:blkL i (some (.normal,s))=some (.normal,s):=rfl
theorem XT {i j:Nat} {s:St}:blkL i (some (.exit j,s))=if j=i then some (.normal,s) else some (.exit j,s):=rfl
theorem aea {i:Nat} {s:St}:blkL i (some (.ret,s))=some (.ret,s):=rfl
theorem aaj {c:dM} {b:Nat} {x y:C} {s:St} {t:Bool}:ab2 c b x y s (.bool t)=if t=true then bh c b x s else bh c b y s:=rfl
theorem U0 {dr:Bool} {os:List O} {un:List (Nat × Nat)} {b:Nat} {keep:List Nat} {s:St} {pX:List Fq}:regL dr os un b keep (some (s,pX))=if dr=false\/Hj os pX un=true then (match Oe b keep s with
 |some s2=>some (.normal,s2)
 |none=>none) else none:=rfl
theorem aek:IntKind.i64.wrap 0=0:=by decide
theorem aej:IntKind.i64.wrap 1=1:=by decide
theorem ab9:IntKind.i64.wrap (-1)=-1:=by decide
theorem aei {i:Int} {j:Nat} (e:i=(j:Int)) (h:j<9223372036854775808):IntKind.i64.wrap i=i:=by subst e; exact Gb h
theorem Tc (l:List Int) (x:Int):(l++[x]).take (l.length+1)=l++[x]:=List.take_of_length_le (by simp)
end Go.Bm
