/- A graph that came in: its number of nodes and its edges, as the machine by value reads them. -/
import Derived.Test.YtmildmgogdmknaaGreatDoorGrfP
import Derived.Deep.SlicePairs
import Derived.OpenShut
open List renaming getD_eq_getElem?_getD → aJ, getElem?_eq_getElem → an
namespace Go.Bm
open Go.Am Go.ChangeShapes Go.WideShapes Go.Deep
def abd (w:World) (a:Option Addr) (len cap:Nat) (Es:List Ed):Prop:=
 (a=none/\len=0/\cap=0/\Es=[]) \/
 ∃ x,a=some x/\len<=cap/\cap<=maxLen/\Es.length=len/\∀ i (h:i<Es.length),w.cell? (x.add (i*2))=some (.int .i64 Es[i].1)/\w.cell? (x.add (i*2+1))=some (.int .i64 Es[i].2)/\(Lit.int .i64 Es[i].1).wf=true/\(Lit.int .i64 Es[i].2).wf=true
theorem alP {w:World} {a:Option Addr} {len cap:Nat} {Es:List Ed} (h:abd w a len cap Es):cB (Rd (fun _=>False) [] w) [] (.list 2 (bU Es)) (.slice a len cap):=by
 rcases h with⟨rfl,rfl,rfl,rfl⟩|⟨x,rfl,hl,hm,hz,hc⟩
 ·exact .kJ _ _
 ·have get:∀{i j:Nat} {y c:AV},(bU Es)[i]?=some y->y.cells[j]?=some c->∃h:i<Es.length,(j=0/\c=.int .i64 Es[i].1)\/(j=1/\c=.int .i64 Es[i].2):=by
   intro i j y c hy hcj;rw[aQ] at hy;cases he:Es[i]? with
   |none=>rw[he] at hy; cases hy
   |some e=>
     rw[he] at hy;cases hy;obtain⟨hi,rfl⟩:=List.getElem?_eq_some_iff.1 he;refine⟨hi,?_⟩
     match j with
     |0=>simp[bW,AV.cells] at hcj; exact .inl ⟨rfl,hcj.symm⟩
     |1=>simp[bW,AV.cells] at hcj; exact .inr ⟨rfl,hcj.symm⟩
     |j+2=>simp[bW,AV.cells] at hcj
  refine .oa _ 2 _ x len cap (fun i j=>.int .i64 (if j=0 then (Es.getD i (0,0)).1 else (Es.getD i (0,0)).2)) (by rw[az,hz]) hl ?_ ?_ ?_
  ·intro y hy;obtain⟨e,_,rfl⟩:=List.mem_map.1 hy;rfl
  ·intro i j y c hy hcj;obtain⟨hi,⟨rfl,rfl⟩|⟨rfl,rfl⟩⟩:=get hy hcj
   ·exact⟨id,bQ.nil _,by rw[if_pos rfl,aJ,an hi]; exact (hc i hi).1⟩
   ·exact⟨id,bQ.nil _,by rw[if_neg (by decide),aJ,an hi]; exact (hc i hi).2.1⟩
  ·intro i j y c hy hcj;obtain⟨hi,⟨rfl,rfl⟩|⟨rfl,rfl⟩⟩:=get hy hcj
   ·rw[if_pos rfl,aJ,an hi]; exact .int _ _ _
   ·rw[if_neg (by decide),aJ,an hi]; exact .int _ _ _
theorem WD {H:Type} {enc:TypeId × Value->H} {P:Program} {w:World} {t e:TypeId} {f0 f1:Field} {fuel:Nat} {cs:List Value} {x:DataW H × List MemPlace} (ht:P.underlying t=some (.slice e)) (he:P.underlying e=some (.struct #[f0,f1]))
  (ce:P.cellsOf e=2) (o0:f0.offset=0) (o1:f1.offset=1) (c0:P.cellsOf f0.type=1) (c1:P.cellsOf f1.type=1) (t0:P.underlying f0.type=some (.int .i64)) (t1:P.underlying f1.type=some (.int .i64))
  (h:DataW.trod enc P w 0 (fun _=>true) true fuel t cs=some x):∃a len cap Es,cs=[.slice a len cap]/\abd w a len cap Es:=by
 rcases open_slice_pairs ht he ce o0 o1 c0 c1 h with⟨rfl,_⟩|⟨a,len,cap,m,n,V0,V1,D0,D1,P0,P1,rfl,_,hl,hm,hmm,_,hi⟩
 ·exact⟨none,0,0,[],rfl,.inl ⟨rfl,rfl,rfl,rfl⟩⟩
 ·have hlm:len<=m:=by rw[hmm]; split<;>omega
  have each:∀i,i<len->∃q:Int × Int,V0 i=.int .i64 q.1/\V1 i=.int .i64 q.2/\(Lit.int .i64 q.1).wf=true/\(Lit.int .i64 q.2).wf=true:=by
   intro i bD;obtain⟨_,_,g0,g1⟩:=hi i (by omega);obtain⟨u,e0,_,w0⟩:=DataW.trod_int t0 g0;obtain⟨v,e1,_,w1⟩:=DataW.trod_int t1 g1;exact⟨(u,v),by simpa using e0,by simpa using e1,w0,w1⟩
  obtain⟨q,hq⟩:=choose_lt each;refine⟨some a,len,cap,(List.range len).map q,rfl,.inr ⟨a,rfl,hl,hm,by simp,fun i h=>?_⟩⟩;have bD:i<len:=by simpa using h
  obtain⟨h0,h1,_,_⟩:=hi i (by omega);obtain⟨q0,q1,q2,q3⟩:=hq i bD;simp only[List.getElem_map,List.getElem_range];exact⟨by rw[h0,q0],by rw[h1,q1],q2,q3⟩
theorem WC {H:Type} {enc:TypeId × Value->H} {P:Program} {w:World} {base:Nat} {tg e:TypeId} {g0 g1 f0 f1:Field} {v:Value} {d:DataW H} {p:List MemPlace} (hg:P.underlying tg=some (.struct #[g0,g1])) (cg:P.cellsOf tg=2)
  (q0:g0.offset=0) (q1:g1.offset=1) (r0:P.cellsOf g0.type=1) (r1:P.cellsOf g1.type=1) (s0:P.underlying g0.type=some (.int .i64)) (ht:P.underlying g1.type=some (.slice e)) (he:P.underlying e=some (.struct #[f0,f1]))
  (ce:P.cellsOf e=2) (o0:f0.offset=0) (o1:f1.offset=1) (c0:P.cellsOf f0.type=1) (c1:P.cellsOf f1.type=1) (t0:P.underlying f0.type=some (.int .i64)) (t1:P.underlying f1.type=some (.int .i64))
  (hv:Value.okWide P w .any base tg v) (h:DataW.Trod enc P w 0 (fun _=>true) true tg v d p) :
  ∃ n a len cap Es,v=.agg #[.int .i64 n,.slice a len cap]/\abd w a len cap Es/\(Lit.int .i64 n).wf=true/\∀ x∈p,x.block<w.heap.size:=by
 obtain⟨cs,rfl,qj⟩:=okWide_struct hg hv;have lt0:∀x∈p,x.block<w.heap.size:=by obtain⟨m,hm⟩:=h; exact DataW.trod_lt m _ _ _ hm
 obtain⟨fuel,hf⟩:=h;obtain⟨y0,y1,k,_,_,h0,h1⟩:=trod_struct2 hg hf;rw[cg] at qj;obtain⟨v0,v1,rfl⟩:∃v0 v1,cs=#[v0,v1]:=⟨cs[0],cs[1],by apply Array.ext<;>simp[qj]; intro i hi; rcases i with _|_|i<;>simp<;>omega⟩;rw[q0,r0] at h0;rw[q1,r1] at h1;simp[Value.cells] at h0 h1;obtain⟨n,e0,_,wn⟩:=DataW.trod_int s0 h0;obtain⟨a,len,cap,Es,e1,hE⟩:=WD ht he ce o0 o1 c0 c1 t0 t1 h1;simp at e0 e1;subst e0; subst e1;exact⟨n,a,len,cap,Es,rfl,hE,wn,lt0⟩
theorem ae4 {w:World} {n:Int} {a:Option Addr} {len cap:Nat} {Es:List Ed} (h:abd w a len cap Es):cB (Rd (fun _=>False) [] w) [] (.agg [.int .i64 n,.list 2 (bU Es)]) (.agg #[.int .i64 n,.slice a len cap]):=by
 refine .agg _ _ _ rfl fun i c v hc hv=>?_
 match i with
 |0=>simp at hc hv; subst hc; subst hv; exact .int _ _ _
 |1=>simp at hc hv; subst hc; subst hv; exact alP h
 |i+2=>simp at hc
end Go.Bm
