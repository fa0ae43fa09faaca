/- A plain sort of parts (level, parent, set); the library's sort by hierarchy's comparison as a function that writes into the slice it is given. -/
import Derived.Test.YtbnheahpdodmjaaGreatDoorGrfP
import Derived.Lib.ItoaNum
set_option linter.unusedSimpArgs false
set_option linter.unusedVariables false
open List renaming mem_cons → aG, pairwise_cons → bD
namespace Go.Bm
open Go.Am
abbrev Pt:=Int × Int × List Int
def bH (x:Pt):AV:=.agg [.int .i64 x.1,.int .i64 x.2.1,.list 1 (ints x.2.2)]
def Li:List AV->Option (List Int)
 |[]=>some []
 |.int .i64 a::r=>match Li r with
   |some l=>some (a::l)
   |none=>none
 |_=>none
theorem TE:∀{cs:List AV} {l:List Int},Li cs=some l->cs=ints l
 |[],l,h=>by simp[Li] at h; subst h; rfl
 |c::r,l,h=>by
   unfold Li at h;split at h
   ·rename_i heq; cases heq
   ·rename_i a r' heq;cases heq;split at h
    ·rename_i l' hl;simp at h;subst h;rw[TE hl];rfl
    ·cases h
   ·cases h
theorem Lh:∀l:List Int,Li (ints l)=some l
 |[]=>rfl
 |x::r=>by
   have ih:=Lh r;unfold ints at ih ⊢;simp[Li,ih]
def HD:List AV->Option (List Pt)
 |[]=>some []
 |.agg [.int .i64 a,.int .i64 b,.list 1 cs]::r=>match Li cs,HD r with
   |some s,some l=>some ((a,b,s)::l)
   |_,_=>none
 |_=>none
theorem Sh:∀{cs:List AV} {zs:List Pt},HD cs=some zs->cs=zs.map bH
 |[],zs,h=>by simp[HD] at h; subst h; rfl
 |c::r,zs,h=>by
   unfold HD at h;split at h
   ·rename_i heq; cases heq
   ·rename_i a b cs r' heq;cases heq;split at h
    ·rename_i s l hs hl;simp at h;subst h;rw[Sh hl,TE hs];rfl
    ·cases h
   ·cases h
theorem N6:∀zs:List Pt,HD (zs.map bH)=some zs
 |[]=>rfl
 |z::r=>by
   have ih:=N6 r;simp only[List.map_cons,bH,HD,Lh];rw[ih]
def tH (a b:Int):Int:=if b<a then 1 else if a<b then -1 else 0
def Xb (x y:Pt):Int:=if tH x.1 y.1=0 then ja x.2.2 y.2.2 else tH x.1 y.1
def wg (x y:Pt):Bool:=decide (Xb x y<0)
theorem afm {a b:Int}:tH a b<0 ↔ a<b:=by unfold tH; split<;>(try split)<;>omega
theorem O0 {a b:Int}:tH a b=0 ↔ a=b:=by unfold tH; split<;>(try split)<;>omega
theorem afl:∀a:List Int,¬ja a a<0:=fun a=>by rw[Bd.2 rfl]; omega
theorem LR:∀{a b c:List Int},ja a b<0->ja b c<0->ja a c<0
 |[],b,c,h1,h2=>by
   cases c with
   |nil=>cases b<;>simp[ja] at h1 h2
   |cons z t=>simp[ja]
 |x::r,[],c,h1,h2=>by simp[ja] at h1
 |x::r,y::s,[],h1,h2=>by simp[ja] at h2
 |x::r,y::s,z::t,h1,h2=>by
   have ih:=@LR r s t;unfold ja at h1 h2 ⊢
   repeat' split at h1
   all_goals (repeat' split at h2)
   all_goals (repeat' split)
   all_goals first
    |omega
    |exact ih h1 h2
theorem Uv:∀a b:List Int,ja a b<0\/a=b\/ja b a<0
 |[],[]=>.inr (.inl rfl)
 |[],y::s=>.inl (by simp[ja])
 |x::r,[]=>.inr (.inr (by simp[ja]))
 |x::r,y::s=>by
   have ih:=Uv r s;by_cases h1:x<y
   ·left; unfold ja; rw[if_neg (by omega),if_pos h1]; omega
   ·by_cases h2:y<x
    ·right; right; unfold ja; rw[if_neg (by omega),if_pos h2]; omega
    ·have:x=y:=by omega
     subst this;rcases ih with h|h|h
     ·left; unfold ja; rw[if_neg h1,if_neg h1]; exact h
     ·right; left; rw[h]
     ·right; right; unfold ja; rw[if_neg h1,if_neg h1]; exact h
theorem sN {x y:Pt}:wg x y=true ↔ x.1<y.1\/(x.1=y.1/\ja x.2.2 y.2.2<0):=by
 unfold wg Xb;rw[decide_eq_true_eq];split
 ·rename_i h; rw[O0] at h; omega
 ·rename_i h; rw[O0] at h; rw[afm]; omega
theorem aap (x:Pt):wg x x=false:=by
 cases h:wg x x with
 |false=>rfl
 | true => rcases sN.1 h with h | ⟨_, h⟩; · omega
           ·exact absurd h (afl _)
theorem sY {x y z:Pt} (h1:wg x y=true) (h2:wg y z=true):wg x z=true:=by
 rw[sN] at *;rcases h1 with h1|⟨h1,k1⟩<;>rcases h2 with h2|⟨h2,k2⟩
 ·left; omega
 ·left; omega
 ·left; omega
 ·right; exact⟨by omega,LR k1 k2⟩
theorem IF (x y:Pt):wg x y=true\/(x.1=y.1/\x.2.2=y.2.2)\/wg y x=true:=by
 by_cases h1:x.1<y.1
 ·exact .inl (sN.2 (.inl h1))
 by_cases h2:y.1<x.1
 ·exact .inr (.inr (sN.2 (.inl h2)))
 have e:x.1=y.1:=by omega
 rcases Uv x.2.2 y.2.2 with h|h|h
 ·exact .inl (sN.2 (.inr ⟨e,h⟩))
 ·exact .inr (.inl ⟨e,h⟩)
 ·exact .inr (.inr (sN.2 (.inr ⟨e.symm,h⟩)))
def TA:List Pt->Bool
 |[]=>true
 |x::r=>r.all (fun y=>!(decide (x.1=y.1)&&decide (x.2.2=y.2.2)))&&TA r
theorem vQ:∀{l:List Pt},TA l=true ↔ l.Pairwise fun x y=>¬(x.1=y.1/\x.2.2=y.2.2)
 |[]=>by simp[TA]
 |x::r=>by
   rw[bD,TA,Bool.and_eq_true,vQ,List.all_eq_true];refine and_congr ⟨fun h y hy e=>?_,fun h y hy=>?_⟩ Iff.rfl
   ·have:=h y hy;rw[decide_eq_true e.1,decide_eq_true e.2] at this;cases this
   ·have:=h y hy;cases h1:decide (x.1=y.1) with
    |false=>rfl
    |true=>cases h2:decide (x.2.2=y.2.2) with
      |false=>rfl
      |true=>exact absurd ⟨of_decide_eq_true h1,of_decide_eq_true h2⟩ this
def Ws (x:Pt):List Pt->List Pt
 |[]=>[x]
 |y::r=>if wg x y=true then x::y::r else y::Ws x r
def nI:List Pt->List Pt
 |[]=>[]
 |x::r=>Ws x (nI r)
theorem FL (x:Pt):∀l,(Ws x l).Perm (x::l)
 |[]=>.refl _
 |y::r=>by
   unfold Ws;split
   ·exact .refl _
   ·exact ((FL x r).cons y).trans (.swap x y r)
theorem lC:∀l,(nI l).Perm l
 |[]=>.refl _
 |x::r=>(FL x _).trans ((lC r).cons x)
theorem mT (l:List Pt):(nI l).length=l.length:=(lC l).length_eq
theorem TF (x:Pt):∀{l},(∀y∈l,¬(x.1=y.1/\x.2.2=y.2.2))->l.Pairwise (fun a b=>wg a b=true)->(Ws x l).Pairwise fun a b=>wg a b=true
 |[],_,_=>by simp[Ws]
 |y::r,hd,hp=>by
   obtain⟨p1,p2⟩:=bD.1 hp;unfold Ws;split
   ·rename_i e;refine bD.2 ⟨fun z hz=>?_,hp⟩;rcases aG.1 hz with rfl|hz
    ·exact e
    ·exact sY e (p1 z hz)
   ·rename_i e;refine bD.2 ⟨fun z hz=>?_,TF x (fun z hz=>hd z (List.mem_cons_of_mem _ hz)) p2⟩;rcases aG.1 ((FL x r).mem_iff.1 hz) with rfl|hz
    ·rcases IF z y with h|h|h
     ·exact absurd h e
     ·exact absurd h (hd y List.mem_cons_self)
     ·exact h
    ·exact p1 z hz
theorem wM:∀{l},TA l=true->(nI l).Pairwise fun a b=>wg a b=true
 |[],_=>.nil
 |x::r,h=>by
   have h2:=bD.1 (vQ.1 h);exact TF x (fun y hy=>h2.1 y ((lC r).mem_iff.1 hy)) (wM (vQ.2 h2.2))
theorem Mh {a b:List Pt} (ha:a.Pairwise fun x y=>wg x y=true) (hb:b.Pairwise fun x y=>wg x y=true) (h:a.Perm b):a=b:=
 List.Perm.eq_of_pairwise (le:=fun x y=>wg x y=true) (fun x y _ _ h1 h2=>by have:=sY h1 h2; rw[aap] at this; cases this) ha hb h
def okP (zs:List Pt):Bool:=TA zs&&zs.all fun z=>decide (z.2.2.length<=1000)
def psG (nC:Nat) (k:Nat) (xs es:List AV):Option (List AV × Option Nat):=
 match es with
 |[.func (.func m) [] []]=>if m=nC/\k=3/\xs.length<=lU then match HD xs with
   |some zs=>if okP zs=true then some ((nI zs).map bH,none) else none
   |none=>none else none
 |_=>none
def py (n:Int):ByteArray:=⟨(Lib.decDigits n.toNat).toArray⟩
def OI:List AV->Heap->Option (AV × Heap)
 |[.int .i64 n,.int .i64 10],[]=>if 0<=n/\n<100 then some (.str (py n),[]) else none
 |_,_=>none
end Go.Bm
