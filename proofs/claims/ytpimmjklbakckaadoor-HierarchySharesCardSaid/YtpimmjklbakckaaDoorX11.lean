/- What two ascending lists have in common, as triangles.shared finds it. -/
import Derived.Test.YtpimmjklbakckaaDoorRwP
set_option linter.unusedSimpArgs false
set_option linter.unusedVariables false
set_option maxRecDepth 100000
set_option maxHeartbeats 4000000
open List renaming replicate → aV
namespace Go.BmP
open Go.Am Go.Bm
def shr:List Int->List Int->List Int
 |[],_=>[]
 |_::_,[]=>[]
 |x::r,y::s=>if x<y then shr r (y::s) else if y<x then shr (x::r) s else x::shr r s
termination_by a b=>a.length+b.length
def sSt (a b o:List Int) (J:Env):St:=⟨(0,.list 1 (ints a))::(1,.list 1 (ints b))::(5,.own 1 (ints o))::J,[]⟩
/- Slices that own each other's cells: the rows of triangles.lists, one step of it. -/
def Cels (C:List AV):Prop:=∀c∈C,(∃xs,c=.own 1 xs)\/c=.any
theorem Jc {p:Rt} {f:Nat->Rt}:∀{C:List AV} {j:Nat},p∉cU C->Jd p f j C=none
 |[],_,_=>rfl
 |c::r,j,h=>by
   simp only[cU,List.mem_append,not_or] at h
   have hb:Mm p (f j) c=none:=by
    have:=h.1;cases c<;>simp only[Mm]
    rename_i k' q o' l';simp only[aI,List.mem_singleton] at this;rw[if_neg fun e=>this e.symm]
   simp only[Jd,hb,Jc h.2]
/- What triangles.lists returns: the neighbours of each node, ascending. -/
def llT (o:List (List Int)):List AV:=o.map fun S=>.list 1 (ints S)
def rws (R:List (List Int)):List AV:=R.map fun r=>.own 1 (ints r)
def lsF (R:List (List Int)) (e:Ed):List (List Int):=(R.set e.1.toNat (R.getD e.1.toNat []++[e.2])).set e.2.toNat (R.getD e.2.toNat []++[e.1])
def liSt (N:Nat) (Es:List Ed) (R:List (List Int)) (i:Nat) (J:Env):St:=⟨(3,.sl 1 1 0 N)::(12,.list 2 (iQ Es))::(13,.int .i64 Es.length)::(14,.int .i64 i)::J,[some [.int .i64 N,.list 2 (iQ Es)],some (rws R)]⟩
def lsSt (N:Nat) (Es:List Ed) (R:List (List Int)) (i:Nat) (J:Env):St:=⟨(3,.sl 1 1 0 N)::(45,.sl 1 1 0 N)::(46,.int .i64 N)::(47,.int .i64 i)::J,[some [.int .i64 N,.list 2 (iQ Es)],some (rws R)]⟩
def lstE (N:Nat) (Es:List Ed):List (List Int):=(Es.foldl lsF (aV N [])).map iM
/- The neighbours that triangles.lists computes: plain law. -/
def nbF (u:Int) (e:Ed):Option Int:=if e.1=u then some e.2 else if e.2=u then some e.1 else none
def nbr (N:Nat) (Es:List Ed) (u:Int):List Int:=(lstE N Es).getD u.toNat []
def com (N:Nat) (Es:List Ed) (e:Ed):List Int:=shr (nbr N Es e.1) (nbr N Es e.2)
def bump (n:List Int) (w:Int):List Int:=n.set w.toNat (n.getD w.toNat 0+1)
def triN (N:Nat) (Es:List Ed):List Int:=Es.foldl (fun n e=>(com N Es e).foldl bump n) (aV N 0)
def triS (N:Nat) (Es:List Ed):Nat:=(Es.map fun e=>(com N Es e).length).sum
/- What graph.Neighbours returns (X01's head, beside RwP, K07, T04). -/
end Go.BmP
