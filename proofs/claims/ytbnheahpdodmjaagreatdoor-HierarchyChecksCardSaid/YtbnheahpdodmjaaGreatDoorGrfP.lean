/- A plain sort of ints; the library's sort as a function that writes into the slice it is given. -/
import Derived.Lib.TrailingZeros
import Derived.Laws.BitsAllLaws
import Derived.Test.YtbnheahpdodmjaaGreatDoorRunX
open Bool renaming and_eq_true → ae, eq_iff_iff → vk, true_and → jb
open List renaming foldl_cons → dM, length_map → aQ, map_cons → dp, mem_cons → aG, nil_append → sI, pairwise_cons → bD
open Nat renaming testBit_two_pow_sub_one → eT, two_pow_pos → Q7
open Option.some renaming injEq → af
namespace Go.Am
def mL:List AV->Option (List Int)
 |[]=>some []
 |.int .i64 n::r=>match mL r with
   |some l=>some (n::l)
   |none=>none
 |_=>none
theorem AZ:∀{cs:List AV} {zs:List Int},mL cs=some zs->cs=zs.map (AV.int .i64)
 |[],zs,h=>by simp[mL] at h; subst h; rfl
 |c::r,zs,h=>by
   unfold mL at h;split at h
   ·rename_i heq; cases heq
   ·rename_i n r' heq;cases heq;split at h
    ·rename_i l hl;simp at h;subst h;rw[AZ hl];rfl
    ·cases h
   ·cases h
theorem uA (zs:List Int):mL (zs.map (AV.int .i64))=some zs:=by
 induction zs with
 |nil=>rfl
 |cons z r ih=>simp[mL,ih]
end Go.Am
namespace Go.Bm
open Go.Am
def TH (x:Int):List Int->List Int
 |[]=>[x]
 |y::r=>if x<=y then x::y::r else y::TH x r
def js:List Int->List Int
 |[]=>[]
 |x::r=>TH x (js r)
theorem FM (x:Int):∀l,(TH x l).Perm (x::l)
 |[]=>.refl _
 |y::r=>by
   unfold TH;split
   ·exact .refl _
   ·exact ((FM x r).cons y).trans (List.Perm.swap x y r)
theorem pT:∀l,(js l).Perm l
 |[]=>.refl _
 |x::r=>(FM x (js r)).trans ((pT r).cons x)
theorem aeK {x z:Int} {l:List Int}:z∈TH x l ↔ z=x\/z∈l:=by
 rw[(FM x l).mem_iff]; simp
theorem TG (x:Int):∀{l:List Int},l.Pairwise (·<=·)->(TH x l).Pairwise (·<=·)
 |[],_=>by simp[TH]
 |y::r,h=>by
   obtain⟨h1,h2⟩:=bD.1 h;unfold TH;split
   ·rename_i hle;refine bD.2 ⟨fun z hz=>?_,h⟩;rcases aG.1 hz with e|e
    ·omega
    ·have:=h1 z e; omega
   ·rename_i hle;refine bD.2 ⟨fun z hz=>?_,TG x h2⟩;rcases aeK.1 hz with e|e
    ·omega
    ·exact h1 z e
theorem AY:∀l,(js l).Pairwise (·<=·)
 |[]=>.nil
 |x::r=>TG x (AY r)
theorem l5 (l:List Int):(js l).length=l.length:=(pT l).length_eq
theorem H7:∀{l m:List Int},l.Perm m->l.Pairwise (·<=·)->m.Pairwise (·<=·)->l=m
 |[],m,h,_,_=>(List.Perm.nil_eq h)
 |x::r,[],h,_,_=>by have:=h.length_eq; simp at this
 |x::r,y::s,h,h1,h2=>by
   obtain⟨a1,a2⟩:=bD.1 h1;obtain⟨b1,b2⟩:=bD.1 h2;have hx:x∈y::s:=h.mem_iff.1 (by simp);have hy:y∈x::r:=h.mem_iff.2 (by simp)
   have e:x=y:=by
    rcases aG.1 hx with e|e
    ·exact e
    ·rcases aG.1 hy with e2|e2
     ·exact e2.symm
     ·have:=a1 y e2; have:=b1 x e; omega
   subst e;rw[H7 (List.Perm.cons_inv h) a2 b2]
def Vv (k:Nat) (xs es:List AV):Option (List AV × Option Nat):=
 match k,es with
 |1,[]=>if xs.length<=lU then match mL xs with
   |some zs=>some ((js zs).map (AV.int .i64),none)
   |none=>none
   else none
 |_,_=>none
/- Plain facts on strictly rising lists of ints: what sort and compact give, and what a merge gives. -/
set_option linter.unusedVariables false
set_option linter.unusedSimpArgs false
def Up (l:List Int):Prop:=l.Pairwise (·<·)
def dd:List Int->List Int
 |[]=>[]
 |[x]=>[x]
 |x::y::r=>if x=y then dd (y::r) else x::dd (y::r)
theorem W0:∀(l:List Int) (z:Int),z∈dd l ↔ z∈l
 |[],z=>by simp[dd]
 |[x],z=>by simp[dd]
 |x::y::r,z=>by
   have ih:=W0 (y::r) z;unfold dd;split
   ·rename_i e; subst e; rw[ih]; simp
   ·rw[aG,ih,aG (a:=z) (b:=x)]
theorem W2:∀l:List Int,(dd l).length<=l.length
 |[]=>by simp[dd]
 |[x]=>by simp[dd]
 |x::y::r=>by
   have ih:=W2 (y::r);unfold dd;split
   ·simp at *; omega
   ·simp at *; omega
theorem ai0:∀{l:List Int},l.Pairwise (·<=·)->Up (dd l)
 |[],_=>by simp[dd,Up]
 |[x],_=>by simp[dd,Up]
 |x::y::r,h=>by
   obtain⟨h1,h2⟩:=bD.1 h;have ih:=ai0 h2;unfold dd;split
   ·exact ih
   ·rename_i qd;refine bD.2 ⟨fun z hz=>?_,ih⟩;have hz:=(W0 _ _).1 hz;have a:=h1 y (by simp);have b:=(bD.1 h2).1;rcases aG.1 hz with e|e
    ·subst e; omega
    ·have:=b z e; omega
def dw (zs:List Int):List Int:=dd (js zs)
theorem gI (zs:List Int):Up (dw zs)/\∀ x,x∈dw zs ↔ x∈zs:=
 ⟨ai0 (AY zs),fun x=>(W0 _ _).trans (pT zs).mem_iff⟩
theorem nM (zs:List Int):(dw zs).length<=zs.length:=by
 have:=W2 (js zs);rw[l5] at this;exact this
theorem ta {a b:List Int} (ha:Up a) (hb:Up b) (h:∀x,x∈a ↔ x∈b):a=b:=by
 induction a generalizing b with
 |nil=>
   cases b with
   |nil=>rfl
   |cons y s=>exact absurd ((h y).mpr (by simp)) (by simp)
 |cons x r ih=>
   cases b with
   |nil=>exact absurd ((h x).mp (by simp)) (by simp)
   |cons y s=>
     unfold Up at ha hb;rw[bD] at ha hb
     have hxy:x=y:=by
      have h1:=(h x).mp (by simp);have h2:=(h y).mpr (by simp);simp only[aG] at h1 h2;rcases h1 with e|e
      ·exact e
      ·rcases h2 with e2|e2
       ·exact e2.symm
       ·have:=ha.1 _ e2;have:=hb.1 _ e;omega
     subst hxy;congr 1;refine ih ha.2 hb.2 fun z=>?_;have hz:=h z;simp only[aG] at hz;constructor
     ·intro hr;rcases hz.mp (.inr hr) with e|e
      ·have:=ha.1 _ hr; omega
      ·exact e
     ·intro hr;rcases hz.mpr (.inr hr) with e|e
      ·have:=hb.1 _ hr; omega
      ·exact e
def sK (c:Bool) (x:Int) (m:List Int):List Int:=if c=true then x::m else m
def yu (keep:Bool->Bool->Bool):List Int->List Int->List Int
 |[],[]=>[]
 |x::r,[]=>sK (keep true false) x (yu keep r [])
 |[],y::s=>sK (keep false true) y (yu keep [] s)
 |x::r,y::s=>
   if x<y then sK (keep true false) x (yu keep r (y::s))
   else if y<x then sK (keep false true) y (yu keep (x::r) s)
   else sK (keep true true) x (yu keep r s)
termination_by a b=>a.length+b.length
theorem zK (keep:Bool->Bool->Bool) (z:Int) (m a' b' a b:List Int) (pa pb:Bool) (h1:Up m) (h2:∀x,x∈m ↔ ((x∈a'\/x∈b')/\keep (decide (x∈a')) (decide (x∈b'))=true)) (bF:∀x,x∈a'\/x∈b'->z<x)
  (hp:pa=true\/pb=true) (ha:∀x,x∈a ↔ ((x=z/\pa=true)\/x∈a')) (hb:∀x,x∈b ↔ ((x=z/\pb=true)\/x∈b')) {o:List Int} (ho:o=if keep pa pb then z::m else m) :
  Up o/\∀ x,x∈o ↔ ((x∈a\/x∈b)/\keep (decide (x∈a)) (decide (x∈b))=true):=by
 subst ho;have hza:z∉a':=fun h=>Int.lt_irrefl _ (bF z (.inl h));have hzb:z∉b':=fun h=>Int.lt_irrefl _ (bF z (.inr h));have hzm:z∉m:=fun h=>((h2 z).mp h).1.elim hza hzb;refine⟨?_,fun x=>?_⟩
 ·split
  ·unfold Up;rw[bD];exact⟨fun y hy=>bF y ((h2 y).mp hy).1,h1⟩
  ·exact h1
 ·by_cases hx:x=z
  ·subst hx;have da:decide (x∈a)=pa:=by cases pa<;>simp[ha,hza]
   have db:decide (x∈b)=pb:=by cases pb<;>simp[hb,hzb]
   have hor:x∈a\/x∈b:=by
    rcases hp with h|h
    ·left; simp[ha,h]
    ·right; simp[hb,h]
   rw[da,db];simp only[hor,true_and];split
   ·rename_i hk;simp[hk]
   ·rename_i hk;simp[hk,hzm]
  ·have da:x∈a ↔ x∈a':=by simp[ha,hx]
   have db:x∈b ↔ x∈b':=by simp[hb,hx]
   simp only[da,db];rw[<-h2];split
   ·simp[hx]
   ·rfl
theorem SK (keep:Bool->Bool->Bool) (a b:List Int) (ha:Up a) (hb:Up b):Up (yu keep a b)/\∀ x,x∈yu keep a b ↔ ((x∈a\/x∈b)/\keep (decide (x∈a)) (decide (x∈b))=true):=by
 induction a,b using yu.induct with
 |case1=>simp[yu,Up]
 |case2 x r ih=>
   unfold Up at ha;rw[bD] at ha;obtain⟨h1,h2⟩:=ih ha.2 hb;exact zK keep x (yu keep r []) r [] (x::r) [] true false h1 h2 (fun y hy=>hy.elim (ha.1 y) (fun h=>by simp at h)) (.inl rfl) (fun y=>by simp) (fun y=>by simp) (by rw[yu]; rfl)
 |case3 y s ih=>
   unfold Up at hb;rw[bD] at hb;obtain⟨h1,h2⟩:=ih ha hb.2;exact zK keep y (yu keep [] s) [] s [] (y::s) false true h1 h2 (fun x hx=>hx.elim (fun h=>by simp at h) (hb.1 x)) (.inr rfl) (fun y=>by simp) (fun y=>by simp) (by rw[yu]; rfl)
 |case4 x r y s bF ih=>
   have IK:=ha;have iE:=hb;unfold Up at ha hb;rw[bD] at ha hb;obtain⟨h1,h2⟩:=ih ha.2 iE
   exact zK keep x (yu keep r (y::s)) r (y::s) (x::r) (y::s) true false h1 h2 (fun z hz=>by
    rcases hz with hz|hz
    ·exact ha.1 z hz
    ·rcases aG.mp hz with e|e
     ·omega
     ·have:=hb.1 z e; omega) (.inl rfl) (fun z=>by simp) (fun z=>by simp) (by rw[yu,if_pos bF]; rfl)
 |case5 x r y s hn bF ih=>
   have IK:=ha;have iE:=hb;unfold Up at ha hb;rw[bD] at ha hb;obtain⟨h1,h2⟩:=ih IK hb.2
   exact zK keep y (yu keep (x::r) s) (x::r) s (x::r) (y::s) false true h1 h2 (fun z hz=>by
    rcases hz with hz|hz
    ·rcases aG.mp hz with e|e
     ·omega
     ·have:=ha.1 z e; omega
    ·exact hb.1 z hz) (.inr rfl) (fun z=>by simp) (fun z=>by simp) (by rw[yu,if_neg hn,if_pos bF]; rfl)
 |case6 x r y s hn hn2 ih=>
   obtain rfl:x=y:=by omega
   unfold Up at ha hb;rw[bD] at ha hb;obtain⟨h1,h2⟩:=ih ha.2 hb.2
   exact zK keep x (yu keep r s) r s (x::r) (x::s) true true h1 h2 (fun z hz=>by
    rcases hz with hz|hz
    ·exact ha.1 z hz
    ·exact hb.1 z hz) (.inl rfl) (fun z=>by simp) (fun z=>by simp) (by rw[yu,if_neg hn,if_neg hn2]; rfl)
def uni (a b:List Int):List Int:=yu (fun _ _=>true) (dw a) (dw b)
def meet (a b:List Int):List Int:=yu (fun p r=>p&&r) (dw a) (dw b)
def minus (a b:List Int):List Int:=yu (fun _ r=>!r) (dw a) (dw b)
theorem sX (a b:List Int):Up (meet a b)/\∀ x,x∈meet a b ↔ x∈a/\x∈b:=by
 obtain⟨a1,a2⟩:=gI a;obtain⟨b1,b2⟩:=gI b;obtain⟨h1,h2⟩:=SK (fun p r=>p&&r) _ _ a1 b1
 exact ⟨h1, fun x => by rw [meet, h2]; simp only [a2, b2, ae, decide_eq_true_eq]; constructor
                        ·exact fun h=>h.2
                        ·exact fun h=>⟨.inl h.1,h⟩⟩
theorem nG (a b:List Int):Up (minus a b)/\∀ x,x∈minus a b ↔ x∈a/\x∉b:=by
 obtain⟨a1,a2⟩:=gI a;obtain⟨b1,b2⟩:=gI b;obtain⟨h1,h2⟩:=SK (fun _ r=>!r) _ _ a1 b1
 exact⟨h1,fun x=>by
  rw[minus,h2];simp only[a2,b2];by_cases hb:x∈b<;>simp[hb]⟩
def gClo:List AV->Heap->Option (AV × Heap)
 |[.list 1 []],[]=>some (.list 1 [],[])
 |_,_=>none
def W3 (k:Nat) (xs es:List AV):Option (List AV × Option Nat):=
 match k,es with
 |1,[]=>if xs.length<=lU then match mL xs with
   |some zs=>some ((dd zs++List.replicate (zs.length-(dd zs).length) 0).map (AV.int .i64),some (dd zs).length)
   |none=>none
   else none
 |_,_=>none
/- What functions on lists of ints answer, in plain terms. -/
def ja:List Int->List Int->Int
 |[],[]=>0
 |[],_::_=>-1
 |_::_,[]=>1
 |x::r,y::s=>if y<x then 1 else if x<y then -1 else ja r s
theorem Bd:∀{a b:List Int},ja a b=0 ↔ a=b
 |[],[]=>by simp[ja]
 |[],_::_=>by simp[ja]
 |_::_,[]=>by simp[ja]
 |x::r,y::s=>by
   have ih:=Bd (a:=r) (b:=s);unfold ja;split
   ·rename_i h; simp; intro e; omega
   ·split
    ·rename_i h; simp; intro e; omega
    ·rw[ih]; simp; intro _; omega
def sa (n:Int):Int->List Int->Bool
 |_,[]=>true
 |p,x::r=>decide (0<=x)&&(decide (x<n)&&(decide (p<x)&&sa n x r))
theorem Fa (n:Int):∀{l:List Int} {p:Int},sa n p l=true ↔ Up l/\∀ x∈l,p<x/\0<=x/\x<n
 |[],p=>by simp[sa,Up]
 |x::r,p=>by
   have ih:=Fa n (l:=r) (p:=x);simp only[sa,ae,decide_eq_true_eq,ih,Up,bD,aG,forall_eq_or_imp];constructor
   ·rintro⟨h1,h2,h3,h4,h5⟩;exact⟨⟨fun y hy=>(h5 y hy).1,h4⟩,⟨h3,h1,h2⟩,fun y hy=>⟨by have:=(h5 y hy).1; omega,(h5 y hy).2⟩⟩
   ·rintro⟨⟨h1,h2⟩,⟨h3,h4,h5⟩,h6⟩;exact⟨h4,h5,h3,h2,fun y hy=>⟨h1 y hy,(h6 y hy).2⟩⟩
def prev (l:List Int) (i:Nat):Int:=if i=0 then -1 else l.getD (i-1) 0
theorem prev_zero (l:List Int):prev l 0=-1:=rfl
theorem sU (l:List Int) (i:Nat) (h:i<l.length):prev l (i+1)=l[i]:=by simp[prev,h]
def tl (x:Int):List Int->List Int
 |[]=>[x]
 |y::r=>if y<x then y::tl x r else if y=x then y::r else x::y::r
theorem Sg (x:Int):∀l,(tl x l).length<=l.length+1
 |[]=>by simp[tl]
 |y::r=>by
   have:=Sg x r;unfold tl;split
   ·simp; omega
   ·split<;>simp
theorem Ks (x z:Int):∀l,z∈tl x l ↔ z=x\/z∈l
 |[]=>by simp[tl]
 |y::r=>by
   have ih:=Ks x z r;unfold tl;split
   ·simp only[aG,ih]; constructor<;>(intro h; rcases h with h|h|h<;>simp[h])
   ·split
    ·rename_i e; subst e; simp
    ·simp
theorem ZF (x:Int):∀{l},Up l->Up (tl x l)
 |[],_=>by simp[tl,Up]
 |y::r,h=>by
   obtain⟨h1,h2⟩:=bD.1 h;unfold tl;split
   ·rename_i bF;refine bD.2 ⟨fun z hz=>?_,ZF x h2⟩;rcases (Ks x z r).1 hz with e|e
    ·omega
    ·exact h1 z e
   ·split
    ·exact h
    ·refine bD.2 ⟨fun z hz=>?_,h⟩;rcases aG.1 hz with e|e
     ·omega
     ·have:=h1 z e; omega
def pos (x:Int):List Int->Nat
 |[]=>0
 |y::r=>if y<x then pos x r+1 else 0
theorem adt (x:Int):∀l,pos x l<=l.length
 |[]=>by simp[pos]
 |y::r=>by have:=adt x r; unfold pos; split<;>simp<;>omega
theorem Sf (x:Int):∀l,tl x l=if l[pos x l]?=some x then l else l.take (pos x l)++x::l.drop (pos x l)
 |[]=>by simp[tl,pos]
 |y::r=>by
   have ih:=Sf x r;unfold tl pos;split
   ·rw[ih];simp only[List.getElem?_cons_succ,List.take_succ_cons,List.drop_succ_cons];split<;>simp
   ·simp only[List.getElem?_cons_zero,af,List.take_zero,List.drop_zero,sI]
def ofL (l:List Int):List Int:=l.foldl (fun o x=>tl x o) []
theorem aaR:∀(l o:List Int),Up o->Up (l.foldl (fun o x=>tl x o) o)/\∀ z,z∈l.foldl (fun o x=>tl x o) o ↔ z∈o\/z∈l
 |[],o,h=>⟨h,fun z=>by simp⟩
 |x::r,o,h=>by
   obtain⟨h1,h2⟩:=aaR r (tl x o) (ZF x h);refine⟨h1,fun z=>?_⟩;rw[dM,h2,Ks];simp only[aG];constructor
   ·rintro ((h|h)|h)<;>simp[h]
   ·rintro (h|h|h)<;>simp[h]
theorem akE (l:List Int):ofL l=dw l:=by
 obtain⟨h1,h2⟩:=aaR l [] (by simp[Up]);obtain⟨h3,h4⟩:=gI l;exact ta h1 h3 fun x=>by rw[h4]; exact (h2 x).trans (by simp)
/- Sets of nodes as bits: plain facts. -/
def tz (x:Nat):Nat:=Lib.ctz 64 x
theorem Is {x:Nat} (h0:x≠0) (h:x<18446744073709551616):∃m,x=2 ^ tz x*(2*m+1)/\tz x<64:=by
 have:=Lib.ctzFrom_spec 64 x (by omega) h;unfold tz Lib.ctz;rw[if_neg h0];exact this
theorem PW (k m j:Nat):(2 ^ k*(2*m+1)).testBit j=if j<k then false else if j=k then true else m.testBit (j-k-1):=by
 rw[Nat.mul_comm,Nat.testBit_mul_two_pow];by_cases h:j<k
 ·simp[h,show ¬k<=j by omega]
 ·rw[if_neg h];have hk:k<=j:=by omega
  by_cases e:j=k
  ·subst e; simp[Nat.testBit_zero]
  ·rw[if_neg e];obtain⟨d,hd⟩:∃d,j-k=d+1:=⟨j-k-1,by omega⟩;rw[hd,Nat.testBit_succ,show (2*m+1) / 2=m by omega];simp[hk]
theorem ads (k m j:Nat):(2 ^ k*(2*m+1)-1).testBit j=if j<k then true else if j=k then false else m.testBit (j-k-1):=by
 have e:2 ^ k*(2*m+1)-1=2 ^ (k+1)*m+(2 ^ k-1):=by
  have:0<2 ^ k:=Q7 k;rw[Nat.pow_succ,Nat.mul_add,Nat.mul_one,<-Nat.mul_assoc];omega
 have hp:0<2 ^ k:=Q7 k;rw[e,Nat.testBit_two_pow_mul_add _ (by rw[Nat.pow_succ]; omega)];by_cases h:j<k
 ·rw[if_pos (by omega),if_pos h,eT]; simp[h]
 ·rw[if_neg h];by_cases e2:j=k
  ·subst e2;rw[if_pos (by omega),if_pos rfl,eT]; simp
  ·rw[if_neg (by omega),if_neg e2,show j-(k+1)=j-k-1 by omega]
theorem EM {x:Nat} (h0:x≠0) (h:x<18446744073709551616) (j:Nat):(x &&& (x-1)).testBit j=(x.testBit j&&decide (j≠tz x)):=by
 obtain⟨m,hm,_⟩:=Is h0 h;rw[Nat.testBit_and]
 conv=>lhs; rw[hm]
 conv=>rhs; rw[hm]
 rw[PW,ads];have hz:tz (2 ^ tz x*(2*m+1))=tz x:=by rw[<-hm]
 rw[hz];by_cases h:j<tz x
 ·simp[h]
 ·by_cases e:j=tz x
  ·simp[e]
  ·simp[h,e]
theorem yN {x:Nat} (h0:x≠0) (h:x<18446744073709551616):x.testBit (tz x)=true/\∀ j,j<tz x->x.testBit j=false:=by
 obtain⟨m,hm,_⟩:=Is h0 h;constructor
 ·conv=>lhs; arg 1; rw[hm]
  rw[PW]; simp
 ·intro j hj
  conv=>lhs; arg 1; rw[hm]
  rw[PW]; simp[hj]
theorem aaY {x:Nat} (h0:x≠0):x &&& (x-1)<x:=by
 have:=Nat.and_le_right (n:=x) (m:=x-1);omega
def bW (m:Nat):List Int:=((List.range 64).filter fun j=>m.testBit j).map fun j=>((j:Nat):Int)
theorem fG {m:Nat} {x:Int}:x∈bW m ↔ ∃j:Nat,x=j/\j<64/\m.testBit j=true:=by
 unfold bW;simp only[List.mem_map,List.mem_filter,List.mem_range];constructor
 ·rintro⟨j,⟨h1,h2⟩,rfl⟩; exact⟨j,rfl,h1,h2⟩
 ·rintro⟨j,rfl,h1,h2⟩; exact⟨j,⟨h1,h2⟩,rfl⟩
theorem nA (m:Nat):Up (bW m):=by
 unfold bW Up;refine List.Pairwise.map _ (fun a b h=>by omega) (List.Pairwise.filter _ List.pairwise_lt_range)
theorem acb:bW 0=[]:=by simp[bW]
theorem mY (m:Nat):(bW m).length<=64:=by
 unfold bW;rw[aQ];exact Nat.le_trans (List.length_filter_le _ _) (by simp)
theorem Pd {m:Nat} (h0:m≠0) (h:m<18446744073709551616):bW m=(tz m:Int)::bW (m &&& (m-1)):=by
 obtain⟨b1,b2⟩:=yN h0 h;obtain⟨_,_,bF⟩:=Is h0 h;refine ta (nA m) (bD.2 ⟨fun x hx=>?_,nA _⟩) fun x=>?_
 ·obtain⟨j,rfl,h1,h2⟩:=fG.1 hx;rw[EM h0 h,ae,decide_eq_true_eq] at h2;have:¬j<tz m:=fun k=>by rw[b2 j k] at h2; simp at h2
  omega
 ·rw[aG,fG,fG];constructor
  ·rintro⟨j,rfl,h1,h2⟩;by_cases e:j=tz m
   ·left; rw[e]
   ·right; exact⟨j,rfl,h1,by rw[EM h0 h,h2]; simp[e]⟩
  ·rintro (rfl|⟨j,rfl,h1,h2⟩)
   ·exact⟨tz m,rfl,bF,b1⟩
   ·rw[EM h0 h,ae] at h2;exact⟨j,rfl,h1,h2.1⟩
def mskF (l:List Int) (m:Nat):Nat:=l.foldl (fun m v=>m ||| 2 ^ v.toNat) m
def yF (l:List Int):Nat:=mskF l 0
theorem SJ:∀(l:List Int) (m j:Nat),(∀v∈l,0<=v)->(mskF l m).testBit j=(m.testBit j||decide ((j:Int)∈l))
 |[],m,j,_=>by simp[mskF]
 |v::r,m,j,h=>by
   have ih:=SJ r (m ||| 2 ^ v.toNat) j (fun w hw=>h w (by simp[hw]));have hv:=h v (by simp);unfold mskF at ih ⊢;rw[dM,ih,Nat.testBit_or,Nat.testBit_two_pow];have e:decide (v.toNat=j)=decide ((j:Int)=v):=by rw[vk,decide_eq_true_eq,decide_eq_true_eq]; omega
   rw[e,Bool.or_assoc];congr 1;rw[vk]; simp
theorem oT {l:List Int} {j:Nat} (h:∀v∈l,0<=v):(yF l).testBit j=decide ((j:Int)∈l):=by
 unfold yF; rw[SJ l 0 j h]; simp
/-! Operations of uint64 -/
theorem ain {n:Nat} (h:n<18446744073709551616):IntKind.u64.wrap (n:Int)=(n:Int):=by rw[IntKind.wrap_u64]; omega
theorem shlU {v:Int} (h0:0<=v) (h1:v<64):IntKind.u64.wrap (1*2 ^ (min v.toNat 64))=((2 ^ v.toNat:Nat):Int):=by
 have e:min v.toNat 64=v.toNat:=by omega
 have h2:2 ^ v.toNat<2 ^ 64:=Nat.pow_lt_pow_right (by decide) (by omega);rw[e,Int.one_mul,show ((2:Int) ^ v.toNat)=((2 ^ v.toNat:Nat):Int) by simp,ain h2]
theorem decU {m:Nat} (h0:m≠0) (h:m<18446744073709551616):IntKind.u64.wrap ((m:Int)-1)=((m-1:Nat):Int):=by
 rw[show (m:Int)-1=((m-1:Nat):Int) by omega,ain (by omega)]
/- Edges and graphs: plain facts. -/
abbrev Ed:=Int × Int
def dG (e:Ed):AV:=.agg [.int .i64 e.1,.int .i64 e.2]
def dA (l:List Ed):List AV:=l.map dG
theorem aL (l:List Ed):(dA l).length=l.length:=aQ _
theorem bz (l:List Ed) (i:Nat):(dA l)[i]?=(l[i]?).map dG:=List.getElem?_map
theorem cM (l:List Ed) (i:Nat) (h:i<(dA l).length):(dA l)[i]=dG (l[i]'(by simpa[dA] using h)):=by simp[dA]
theorem OR (l:List Ed) (u v:Int):dA l++[.agg [.int .i64 u,.int .i64 v]]=dA (l++[(u,v)]):=by simp[dA,dG]
theorem EL (l:List Ed) (n:Nat):(dA l).take n=dA (l.take n):=by simp[dA]
theorem aI (l:List Ed):bC (aA (dA l))=true:=by
 induction l with
 |nil=>rfl
 |cons x r ih=>simp only[dA,dp,aA,dG,AV.cells,List.cons_append,sI,bC,AV.leaf,jb] at ih ⊢; exact ih
theorem aP (l:List Ed):im (dA l)=true:=by
 induction l with
 |nil=>rfl
 |cons x r ih=>simp only[dA,dp,dG,im,clean,jb,Bool.and_true] at ih ⊢; exact ih
theorem aH (l:List Int):im (ints l)=true:=by
 induction l with
 |nil=>rfl
 |cons x r ih=>simp only[ints,dp,im,clean] at ih ⊢; rw[ih]; rfl
def KZ (a b:Ed):Prop:=a.1<b.1\/a.1=b.1/\a.2<b.2
instance (a b:Ed):Decidable (KZ a b):=by unfold KZ; infer_instance
theorem abN {a b c:Ed} (h:KZ a b) (k:KZ b c):KZ a c:=by unfold KZ at *; omega
theorem ag5 {a:Ed}:¬KZ a a:=by unfold KZ; omega
def UpE (l:List Ed):Prop:=l.Pairwise KZ
def putE (x:Ed):List Ed->List Ed
 |[]=>[x]
 |y::r=>if KZ y x then y::putE x r else if y=x then y::r else x::y::r
def posE (x:Ed):List Ed->Nat
 |[]=>0
 |y::r=>if KZ y x then posE x r+1 else 0
def nrmE (u v:Int):Ed:=(if v<u then v else u,if u<v then v else u)
def ofE (l:List Ed) (o:List Ed):List Ed:=l.foldl (fun o e=>putE (nrmE e.1 e.2) o) o
def Me:Option Ed->Ed->Prop
 |none,_=>False
 |some q,e=>¬KZ q e
instance:∀p e,Decidable (Me p e)
 |none,_=>instDecidableFalse
 |some q,e=>inferInstanceAs (Decidable (¬KZ q e))
def fD (n:Int):Option Ed->List Ed->Int
 |_,[]=>0
 |p,e::r=>if e.1<0\/e.2<=e.1\/n<=e.2 then 6 else if Me p e then 5 else fD n (some e) r
def chkG (n:Int) (l:List Ed):Int:=if n<0\/64<n then 1 else fD n none l
theorem LY (n:Int):∀{l:List Ed} {p:Option Ed},fD n p l=0 ↔ UpE l/\(∀e∈l,0<=e.1/\e.1<e.2/\e.2<n)/\∀ q,p=some q->∀e∈l,KZ q e
 |[],p=>by simp[fD,UpE]
 |e::r,p=>by
   have ih:=LY n (l:=r) (p:=some e);unfold fD;by_cases h1:e.1<0\/e.2<=e.1\/n<=e.2
   ·rw[if_pos h1];constructor
    ·intro h; cases h
    ·rintro⟨_,h,_⟩; have:=h e (by simp); omega
   ·rw[if_neg h1];cases p with
    |none=>
      rw[if_neg (show ¬Me none e from fun h=>h),ih];simp only[UpE,bD,aG,forall_eq_or_imp];constructor
      ·rintro⟨a,b,c⟩; exact⟨⟨fun z hz=>c e rfl z hz,a⟩,⟨by omega,b⟩,fun q hq=>by cases hq⟩
      ·rintro⟨⟨a,b⟩,⟨c,d⟩,f⟩; exact⟨b,d,fun q hq=>by cases hq; exact a⟩
    |some q=>
      by_cases h2:KZ q e
      ·rw[if_neg (show ¬Me (some q) e from fun h=>h h2),ih];simp only[UpE,bD,aG,forall_eq_or_imp];constructor
       ·rintro⟨a,b,c⟩;exact⟨⟨fun z hz=>c e rfl z hz,a⟩,⟨by omega,b⟩,fun q' hq=>by cases hq; exact⟨h2,fun z hz=>abN h2 (c e rfl z hz)⟩⟩
       ·rintro⟨⟨a,b⟩,⟨c,d⟩,f⟩; exact⟨b,d,fun q hq=>by cases hq; exact a⟩
      ·rw[if_pos (show Me (some q) e from h2)];constructor
       ·intro h; cases h
       ·rintro⟨_,_,h⟩; exact absurd (h q rfl e (by simp)) h2
def tV (n:Int) (l:List Ed):Prop:=(0<=n/\n<=64)/\UpE l/\∀ e∈l,0<=e.1/\e.1<e.2/\e.2<n
theorem s6 {n:Int} {l:List Ed}:chkG n l=0 ↔ tV n l:=by
 unfold chkG tV;by_cases h:n<0\/64<n
 ·rw[if_pos h]; constructor
  ·intro h; cases h
  ·rintro⟨h2,_⟩; omega
 ·rw[if_neg h,LY];constructor
  ·rintro⟨a,b,_⟩; exact⟨by omega,a,b⟩
  ·rintro⟨_,a,b⟩; exact⟨a,b,fun q hq=>by cases hq⟩
end Go.Bm
