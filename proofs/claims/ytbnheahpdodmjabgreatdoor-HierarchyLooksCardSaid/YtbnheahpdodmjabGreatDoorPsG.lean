/- A plain sort of parts (level, parent, set); the library's sort by hierarchy's comparison as a function that writes into the slice it is given. -/
import Derived.Test.YtbnheahpdodmjabGreatDoorGrfP
import Derived.Lib.ItoaNum
set_option linter.unusedSimpArgs false
set_option linter.unusedVariables false
open List renaming mem_cons → aO, pairwise_cons → bK
namespace Go.Bm
open Go.Am
abbrev Pt:=Int × Int × List Int
def bw (x:Pt):AV:=.agg [.int .i64 x.1,.int .i64 x.2.1,.list 1 (ints x.2.2)]
def Mg:List AV->Option (List Int)
 |[]=>some []
 |.int .i64 a::r=>match Mg r with
   |some l=>some (a::l)
   |none=>none
 |_=>none
theorem U8:∀{cs:List AV} {l:List Int},Mg cs=some l->cs=ints l
 |[],l,h=>by simp[Mg] at h; subst h; rfl
 |c::r,l,h=>by
   unfold Mg at h;split at h
   ·rename_i heq; cases heq
   ·rename_i a r' heq;cases heq;split at h
    ·rename_i l' hl;simp at h;subst h;rw[U8 hl];rfl
    ·cases h
   ·cases h
theorem Mf:∀l:List Int,Mg (ints l)=some l
 |[]=>rfl
 |x::r=>by
   have ih:=Mf r;unfold ints at ih ⊢;simp[Mg,ih]
def HS:List AV->Option (List Pt)
 |[]=>some []
 |.agg [.int .i64 a,.int .i64 b,.list 1 cs]::r=>match Mg cs,HS r with
   |some s,some l=>some ((a,b,s)::l)
   |_,_=>none
 |_=>none
theorem TM:∀{cs:List AV} {zs:List Pt},HS cs=some zs->cs=zs.map bw
 |[],zs,h=>by simp[HS] at h; subst h; rfl
 |c::r,zs,h=>by
   unfold HS at h;split at h
   ·rename_i heq; cases heq
   ·rename_i a b cs r' heq;cases heq;split at h
    ·rename_i s l hs hl;simp at h;subst h;rw[TM hl,U8 hs];rfl
    ·cases h
   ·cases h
theorem Pj:∀zs:List Pt,HS (zs.map bw)=some zs
 |[]=>rfl
 |z::r=>by
   have ih:=Pj r;simp only[List.map_cons,bw,HS,Mf];rw[ih]
def uD (a b:Int):Int:=if b<a then 1 else if a<b then -1 else 0
def YC (x y:Pt):Int:=if uD x.1 y.1=0 then ji x.2.2 y.2.2 else uD x.1 y.1
def wQ (x y:Pt):Bool:=decide (YC x y<0)
theorem agX {a b:Int}:uD a b<0 ↔ a<b:=by unfold uD; split<;>(try split)<;>omega
theorem Qo {a b:Int}:uD a b=0 ↔ a=b:=by unfold uD; split<;>(try split)<;>omega
theorem agW:∀a:List Int,¬ji a a<0:=fun a=>by rw[BB.2 rfl]; omega
theorem MN:∀{a b c:List Int},ji a b<0->ji b c<0->ji a c<0
 |[],b,c,h1,h2=>by
   cases c with
   |nil=>cases b<;>simp[ji] at h1 h2
   |cons z t=>simp[ji]
 |x::r,[],c,h1,h2=>by simp[ji] at h1
 |x::r,y::s,[],h1,h2=>by simp[ji] at h2
 |x::r,y::s,z::t,h1,h2=>by
   have ih:=@MN r s t;unfold ji at h1 h2 ⊢
   repeat' split at h1
   all_goals (repeat' split at h2)
   all_goals (repeat' split)
   all_goals first
    |omega
    |exact ih h1 h2
theorem VW:∀a b:List Int,ji a b<0\/a=b\/ji b a<0
 |[],[]=>.inr (.inl rfl)
 |[],y::s=>.inl (by simp[ji])
 |x::r,[]=>.inr (.inr (by simp[ji]))
 |x::r,y::s=>by
   have ih:=VW r s;by_cases h1:x<y
   ·left; unfold ji; rw[if_neg (by omega),if_pos h1]; omega
   ·by_cases h2:y<x
    ·right; right; unfold ji; rw[if_neg (by omega),if_pos h2]; omega
    ·have:x=y:=by omega
     subst this;rcases ih with h|h|h
     ·left; unfold ji; rw[if_neg h1,if_neg h1]; exact h
     ·right; left; rw[h]
     ·right; right; unfold ji; rw[if_neg h1,if_neg h1]; exact h
theorem th {x y:Pt}:wQ x y=true ↔ x.1<y.1\/(x.1=y.1/\ji x.2.2 y.2.2<0):=by
 unfold wQ YC;rw[decide_eq_true_eq];split
 ·rename_i h; rw[Qo] at h; omega
 ·rename_i h; rw[Qo] at h; rw[agX]; omega
theorem abA (x:Pt):wQ x x=false:=by
 cases h:wQ x x with
 |false=>rfl
 | true => rcases th.1 h with h | ⟨_, h⟩; · omega
           ·exact absurd h (agW _)
theorem tC {x y z:Pt} (h1:wQ x y=true) (h2:wQ y z=true):wQ x z=true:=by
 rw[th] at *;rcases h1 with h1|⟨h1,k1⟩<;>rcases h2 with h2|⟨h2,k2⟩
 ·left; omega
 ·left; omega
 ·left; omega
 ·right; exact⟨by omega,MN k1 k2⟩
theorem IX (x y:Pt):wQ x y=true\/(x.1=y.1/\x.2.2=y.2.2)\/wQ y x=true:=by
 by_cases h1:x.1<y.1
 ·exact .inl (th.2 (.inl h1))
 by_cases h2:y.1<x.1
 ·exact .inr (.inr (th.2 (.inl h2)))
 have e:x.1=y.1:=by omega
 rcases VW x.2.2 y.2.2 with h|h|h
 ·exact .inl (th.2 (.inr ⟨e,h⟩))
 ·exact .inr (.inl ⟨e,h⟩)
 ·exact .inr (.inr (th.2 (.inr ⟨e.symm,h⟩)))
def U0:List Pt->Bool
 |[]=>true
 |x::r=>r.all (fun y=>!(decide (x.1=y.1)&&decide (x.2.2=y.2.2)))&&U0 r
theorem wB:∀{l:List Pt},U0 l=true ↔ l.Pairwise fun x y=>¬(x.1=y.1/\x.2.2=y.2.2)
 |[]=>by simp[U0]
 |x::r=>by
   rw[bK,U0,Bool.and_eq_true,wB,List.all_eq_true];refine and_congr ⟨fun h y hy e=>?_,fun h y hy=>?_⟩ Iff.rfl
   ·have:=h y hy;rw[decide_eq_true e.1,decide_eq_true e.2] at this;cases this
   ·have:=h y hy;cases h1:decide (x.1=y.1) with
    |false=>rfl
    |true=>cases h2:decide (x.2.2=y.2.2) with
      |false=>rfl
      |true=>exact absurd ⟨of_decide_eq_true h1,of_decide_eq_true h2⟩ this
def XT (x:Pt):List Pt->List Pt
 |[]=>[x]
 |y::r=>if wQ x y=true then x::y::r else y::XT x r
def oC:List Pt->List Pt
 |[]=>[]
 |x::r=>XT x (oC r)
theorem Gl (x:Pt):∀l,(XT x l).Perm (x::l)
 |[]=>.refl _
 |y::r=>by
   unfold XT;split
   ·exact .refl _
   ·exact ((Gl x r).cons y).trans (.swap x y r)
theorem lK:∀l,(oC l).Perm l
 |[]=>.refl _
 |x::r=>(Gl x _).trans ((lK r).cons x)
theorem mZ (l:List Pt):(oC l).length=l.length:=(lK l).length_eq
theorem U9 (x:Pt):∀{l},(∀y∈l,¬(x.1=y.1/\x.2.2=y.2.2))->l.Pairwise (fun a b=>wQ a b=true)->(XT x l).Pairwise fun a b=>wQ a b=true
 |[],_,_=>by simp[XT]
 |y::r,hd,hp=>by
   obtain⟨p1,p2⟩:=bK.1 hp;unfold XT;split
   ·rename_i e;refine bK.2 ⟨fun z hz=>?_,hp⟩;rcases aO.1 hz with rfl|hz
    ·exact e
    ·exact tC e (p1 z hz)
   ·rename_i e;refine bK.2 ⟨fun z hz=>?_,U9 x (fun z hz=>hd z (List.mem_cons_of_mem _ hz)) p2⟩;rcases aO.1 ((Gl x r).mem_iff.1 hz) with rfl|hz
    ·rcases IX z y with h|h|h
     ·exact absurd h e
     ·exact absurd h (hd y List.mem_cons_self)
     ·exact h
    ·exact p1 z hz
theorem xt:∀{l},U0 l=true->(oC l).Pairwise fun a b=>wQ a b=true
 |[],_=>.nil
 |x::r,h=>by
   have h2:=bK.1 (wB.1 h);exact U9 x (fun y hy=>h2.1 y ((lK r).mem_iff.1 hy)) (xt (wB.2 h2.2))
theorem M9 {a b:List Pt} (ha:a.Pairwise fun x y=>wQ x y=true) (hb:b.Pairwise fun x y=>wQ x y=true) (h:a.Perm b):a=b:=
 List.Perm.eq_of_pairwise (le:=fun x y=>wQ x y=true) (fun x y _ _ h1 h2=>by have:=tC h1 h2; rw[abA] at this; cases this) ha hb h
def okP (zs:List Pt):Bool:=U0 zs&&zs.all fun z=>decide (z.2.2.length<=1000)
def psG (nC:Nat) (k:Nat) (xs es:List AV):Option (List AV × Option Nat):=
 match es with
 |[.func (.func m) [] []]=>if m=nC/\k=3/\xs.length<=ks then match HS xs with
   |some zs=>if okP zs=true then some ((oC zs).map bw,none) else none
   |none=>none else none
 |_=>none
def qc (n:Int):ByteArray:=⟨(Lib.decDigits n.toNat).toArray⟩
def P5:List AV->Heap->Option (AV × Heap)
 |[.int .i64 n,.int .i64 10],[]=>if 0<=n/\n<100 then some (.str (qc n),[]) else none
 |_,_=>none
end Go.Bm
