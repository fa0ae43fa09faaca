/- Plain facts for runs by rewriting: rows of ints, appends. -/
import Derived.Test.YtpimmjklbakckaaGreatDoorRunL
set_option linter.unusedVariables false
open List renaming map_cons → eB
namespace Go.Bm
open Go.Am
theorem jM (l:List Int):aA (ints l)=ints l:=by
 induction l with
 |nil=>rfl
 |cons x r ih=>simp only[ints,eB,aA,AV.cells] at ih ⊢; rw[ih]; rfl
theorem Lj (l:List Int):bq (ints l)=true:=by
 induction l with
 |nil=>rfl
 |cons x r ih=>simp only[ints,eB,bq,AV.leaf] at ih ⊢; rw[ih]; rfl
theorem AE (l:List Int):eE (ints l)=true:=by
 induction l with
 |nil=>rfl
 |cons x r ih=>simp only[ints,eB,eE,pl] at ih ⊢; rw[ih]; rfl
theorem eG (l:List Int) (x:Int):ints l++[.int .i64 x]=ints (l++[x]):=by simp[ints]
theorem NN (l m:List Int):ints l++ints m=ints (l++m):=by simp[ints]
theorem cH (l:List Int) (n:Nat):(ints l).take n=ints (l.take n):=by simp[ints]
theorem fx (l:List Int) (n:Nat):(ints l).drop n=ints (l.drop n):=by simp[ints]
theorem dw:ints []=[]:=rfl
theorem iU (x:Int) (l:List Int):ints (x::l)=.int .i64 x::ints l:=rfl
theorem EA {i:Nat} (h:i<9223372036854775808):IntKind.i64.wrap (i:Int)=(i:Int):=sg (by omega) (by omega)
theorem eO {i:Nat} (h:i<9223372036854775807):IntKind.i64.wrap ((i:Int)+1)=((i+1:Nat):Int):=by rw[sg (by omega) (by omega)]; omega
theorem WT {c:dO} {f:Nat} {md:Md} {q:gH} {args:List AV} {H:Heap} (ho:HP c f args H=none) (hf:c.fn f=some (md,q)) (hl:args.length<=q.n):bU c f args H=cc c md q H.length (bg c H.length q.body ⟨dN 0 args,H⟩):=by
 unfold bU mJ;simp only[ho,hf,hl,if_true];generalize bg c H.length q.body ⟨dN 0 args,H⟩=z;cases z with
 |none=>rfl
 |some w=>
   obtain⟨e,s⟩:=w;cases e<;>rfl
theorem JR {c:dO} {f:Nat} {args:List AV} {H:Heap} {r:AV × Heap} (h:HP c f args H=some r):bU c f args H=some r:=by
 unfold bU mJ;rw[h]
theorem jJ:((0:Nat):Int)=0:=rfl
theorem bk {c:dO} {b:Nat} {x:C} {s s':St} (h:bg c b x s=some (.normal,s')):bg c b (.loop x) s=bg c b (.loop x) s':=by rw[rI,h]; rfl
theorem bI {c:dO} {b:Nat} {x:C} {s s':St} {i:Nat} (h:bg c b x s=some (.exit i,s')):bg c b (.loop x) s=some (.exit i,s'):=by rw[rI,h]; rfl
theorem eJ {c:dO} {b:Nat} {x:C} {s s':St} (h:bg c b x s=some (.ret,s')):bg c b (.loop x) s=some (.ret,s'):=by rw[rI,h]; rfl
theorem lU {c:dO} {b:Nat} {y:C} {s:St}:Io c b y (some (.normal,s))=bg c b y s:=rfl
theorem aaO {c:dO} {b:Nat} {y:C} {s:St} {i:Nat}:Io c b y (some (.exit i,s))=some (.exit i,s):=rfl
theorem aaN {c:dO} {b:Nat} {y:C} {s:St}:Io c b y (some (.ret,s))=some (.ret,s):=rfl
theorem afV {i:Nat} {s:St}:blkL i (some (.normal,s))=some (.normal,s):=rfl
theorem aau {i j:Nat} {s:St}:blkL i (some (.exit j,s))=if j=i then some (.normal,s) else some (.exit j,s):=rfl
theorem afU {i:Nat} {s:St}:blkL i (some (.ret,s))=some (.ret,s):=rfl
theorem ab3 {c:dO} {b:Nat} {x y:C} {s:St} {t:Bool}:adT c b x y s (.bool t)=if t=true then bg c b x s else bg c b y s:=rfl
theorem XJ {dr:Bool} {os:List O} {un:List (Nat × Nat)} {b:Nat} {keep:List Nat} {s:St} {qH:List Fq}:regL dr os un b keep (some (s,qH))=if dr=false\/JC os qH un=true then (match QU b keep s with
 |some s2=>some (.normal,s2)
 |none=>none) else none:=rfl
theorem af3:IntKind.i64.wrap 0=0:=by decide
theorem af2:IntKind.i64.wrap 1=1:=by decide
theorem ad0:IntKind.i64.wrap (-1)=-1:=by decide
theorem acL {i:Int} {j:Nat} (e:i=(j:Int)) (h:j<9223372036854775808):IntKind.i64.wrap i=i:=by subst e; exact EA h
theorem Ip (l:List Int) (x:Int):(l++[x]).take (l.length+1)=l++[x]:=List.take_of_length_le (by simp)
theorem PG {l:List Int} {i:Nat} (h:l.length=i) (x:Int):(l.take i++[x]).take (i+1)=l++[x]:=by subst h; rw[List.take_length,Ip]
end Go.Bm
