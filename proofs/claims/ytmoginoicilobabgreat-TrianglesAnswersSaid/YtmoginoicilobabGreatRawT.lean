/- A graph that came in: its number of nodes and its edges, as the machine by value reads them. -/
import Derived.Test.YtmoginoicilobabGreatMe
import Derived.Test.YtmoginoicilobabGreatGrfP
import Derived.Deep.SlicePairs
import Derived.OpenShut
open List renaming getD_eq_getElem?_getD → aP, getElem?_eq_getElem → ai
namespace Go.Bm
open Go.Am Go.ChangeShapes Go.WideShapes Go.Deep
def UC (w : World) (a : Option Addr) (len cap : Nat) (Es : List Ed) : Prop :=
 (a = none /\ len = 0 /\ cap = 0 /\ Es = []) \/
 ∃ x,a = some x /\ len <= cap /\ cap <= maxLen /\ Es.length = len /\ ∀ i (h : i < Es.length),w.cell? (x.add (i * 2)) = some (.int .i64 Es[i].1) /\ w.cell? (x.add (i * 2 + 1)) = some (.int .i64 Es[i].2) /\ (Lit.int .i64 Es[i].1).wf = true /\ (Lit.int .i64 Es[i].2).wf = true
theorem ahg {w : World} {a : Option Addr} {len cap : Nat} {Es : List Ed} (h : UC w a len cap Es) : bI (Rd (fun _ => False) [] w) [] (.list 2 (bm Es)) (.slice a len cap) := by
 rcases h with ⟨rfl,rfl,rfl,rfl⟩ | ⟨x,rfl,hl,hm,hz,hc⟩
 ·exact .jC _ _
 ·have get : ∀ {i j : Nat} {y c : AV},(bm Es)[i]? = some y -> y.cells[j]? = some c -> ∃ h : i < Es.length,(j = 0 /\ c = .int .i64 Es[i].1) \/ (j = 1 /\ c = .int .i64 Es[i].2) := by
   intro i j y c hy hcj;rw [aX] at hy;cases he : Es[i]? with
   | none => rw [he] at hy; cases hy
   | some e =>
     rw [he] at hy;cases hy;obtain ⟨hi,rfl⟩ := List.getElem?_eq_some_iff.1 he;refine ⟨hi,?_⟩
     match j with
     | 0 => simp [dj,AV.cells] at hcj; exact .inl ⟨rfl,hcj.symm⟩
     | 1 => simp [dj,AV.cells] at hcj; exact .inr ⟨rfl,hcj.symm⟩
     | j + 2 => simp [dj,AV.cells] at hcj
  refine .qC _ 2 _ x len cap (fun i j => .int .i64 (if j = 0 then (Es.getD i (0,0)).1 else (Es.getD i (0,0)).2)) (by rw [av,hz]) hl ?_ ?_ ?_
  ·intro y hy;obtain ⟨e,_,rfl⟩ := List.mem_map.1 hy;rfl
  ·intro i j y c hy hcj;obtain ⟨hi,⟨rfl,rfl⟩ | ⟨rfl,rfl⟩⟩ := get hy hcj
   ·exact ⟨id,bM.nil _,by rw [if_pos rfl,aP,ai hi]; exact (hc i hi).1⟩
   ·exact ⟨id,bM.nil _,by rw [if_neg (by decide),aP,ai hi]; exact (hc i hi).2.1⟩
  ·intro i j y c hy hcj;obtain ⟨hi,⟨rfl,rfl⟩ | ⟨rfl,rfl⟩⟩ := get hy hcj
   ·rw [if_pos rfl,aP,ai hi]; exact .int _ _ _
   ·rw [if_neg (by decide),aP,ai hi]; exact .int _ _ _
theorem Qx {H : Type} {enc : TypeId × Value -> H} {P : Program} {w : World} {t e : TypeId} {f0 f1 : Field} {fuel : Nat} {cs : List Value} {x : DataW H × List MemPlace} (ht : P.underlying t = some (.slice e)) (he : P.underlying e = some (.struct #[f0,f1]))
  (ce : P.cellsOf e = 2) (o0 : f0.offset = 0) (o1 : f1.offset = 1) (c0 : P.cellsOf f0.type = 1) (c1 : P.cellsOf f1.type = 1) (t0 : P.underlying f0.type = some (.int .i64)) (t1 : P.underlying f1.type = some (.int .i64))
  (h : DataW.trod enc P w 0 (fun _ => true) true fuel t cs = some x) : ∃ a len cap Es,cs = [.slice a len cap] /\ UC w a len cap Es := by
 rcases open_slice_pairs ht he ce o0 o1 c0 c1 h with ⟨rfl,_⟩ | ⟨a,len,cap,m,n,V0,V1,D0,D1,P0,P1,rfl,_,hl,hm,hmm,_,hi⟩
 ·exact ⟨none,0,0,[],rfl,.inl ⟨rfl,rfl,rfl,rfl⟩⟩
 ·have hlm : len <= m := by rw [hmm]; split <;> omega
  have each : ∀ i,i < len -> ∃ q : Int × Int,V0 i = .int .i64 q.1 /\ V1 i = .int .i64 q.2 /\ (Lit.int .i64 q.1).wf = true /\ (Lit.int .i64 q.2).wf = true := by
   intro i bO;obtain ⟨_,_,g0,g1⟩ := hi i (by omega);obtain ⟨u,e0,_,w0⟩ := DataW.trod_int t0 g0;obtain ⟨v,e1,_,w1⟩ := DataW.trod_int t1 g1;exact ⟨(u,v),by simpa using e0,by simpa using e1,w0,w1⟩
  obtain ⟨q,hq⟩ := choose_lt each;refine ⟨some a,len,cap,(List.range len).map q,rfl,.inr ⟨a,rfl,hl,hm,by simp,fun i h => ?_⟩⟩;have bO : i < len := by simpa using h
  obtain ⟨h0,h1,_,_⟩ := hi i (by omega);obtain ⟨q0,q1,q2,q3⟩ := hq i bO;simp only [List.getElem_map,List.getElem_range];exact ⟨by rw [h0,q0],by rw [h1,q1],q2,q3⟩
/- A two-sided graph and a pair of sets that came in, as the machine by value reads them. -/
theorem Vk {H : Type} {enc : TypeId × Value -> H} {P : Program} {w : World} {t e : TypeId} {fuel : Nat} {cs : List Value} {x : DataW H × List MemPlace} (ht : P.underlying t = some (.slice e)) (he : P.underlying e = some (.int .i64)) (ce : P.cellsOf e = 1)
  (h : DataW.trod enc P w 0 (fun _ => true) true fuel t cs = some x) : ∃ a len cap zs,cs = [.slice a len cap] /\ Pm .i64 w a len cap zs := by
 rcases open_ints ht he ce h with ⟨dC,hx⟩ | ⟨x,l,c,zs,dC,_,hl,hm,hz,hx,fQ,hwz⟩
 ·exact ⟨none,0,0,[],dC,.inl ⟨rfl,rfl,rfl,rfl⟩⟩
 ·exact ⟨some x,l,c,zs,dC,.inr ⟨_,rfl,hl,hm,by simpa using hz,fQ,hwz⟩⟩
/- A graph with its triangles that came in, as the machine by value reads it. -/
theorem Zr {H : Type} {enc : TypeId × Value -> H} {P : Program} {w : World} {base : Nat} {ts e e1 : TypeId} {h0' VY h2' g0 g1 f0 f1 : Field} {v : Value} {d : DataW H} {p : List MemPlace} (hs : P.underlying ts = some (.struct #[h0',VY,h2'])) (Un : P.cellsOf ts = 4) (hq0 : h0'.offset = 0) (hq1 : VY.offset = 2) (hq2 : h2'.offset = 3) (hr0 : P.cellsOf h0'.type = 2) (hr1 : P.cellsOf VY.type = 1) (hr2 : P.cellsOf h2'.type = 1)
  (hg : P.underlying h0'.type = some (.struct #[g0,g1]))
  (q0 : g0.offset = 0) (q1 : g1.offset = 1) (r0 : P.cellsOf g0.type = 1) (r1 : P.cellsOf g1.type = 1) (s0 : P.underlying g0.type = some (.int .i64)) (ht : P.underlying g1.type = some (.slice e)) (he : P.underlying e = some (.struct #[f0,f1]))
  (ce : P.cellsOf e = 2) (o0 : f0.offset = 0) (o1 : f1.offset = 1) (c0 : P.cellsOf f0.type = 1) (c1 : P.cellsOf f1.type = 1) (t0 : P.underlying f0.type = some (.int .i64)) (t1 : P.underlying f1.type = some (.int .i64))
  (uc1 : P.underlying VY.type = some (.int .i64)) (u1 : P.underlying h2'.type = some (.slice e1)) (ue : P.underlying e1 = some (.int .i64)) (uc : P.cellsOf e1 = 1)
  (hv : Value.okWide P w .any base ts v) (h : DataW.Trod enc P w 0 (fun _ => true) true ts v d p) :
  ∃ n a len cap Es C a1 l1 k1 z1,v = .agg #[.int .i64 n,.slice a len cap,.int .i64 C,.slice a1 l1 k1] /\ UC w a len cap Es /\ Pm .i64 w a1 l1 k1 z1 /\ (Lit.int .i64 n).wf = true /\ (Lit.int .i64 C).wf = true /\ ∀ x ∈ p,x.block < w.heap.size := by
 obtain ⟨cs,rfl,kM⟩ := okWide_struct hs hv;have lt0 : ∀ x ∈ p,x.block < w.heap.size := by obtain ⟨m,hm⟩ := h; exact DataW.trod_lt m _ _ _ hm
 obtain ⟨fuel,hf⟩ := h;obtain ⟨xs,n,_,_,hl,hlen,CY⟩ := DataW.trod_struct hs hf;have h0 := CY 0 h0' rfl;have h1 := CY 1 VY rfl;have h2 := CY 2 h2' rfl;rw [Un] at kM;obtain ⟨v0,v1,v2,v3,rfl⟩ : ∃ v0 v1 v2 v3,cs = #[v0,v1,v2,v3] := ⟨cs[0],cs[1],cs[2],cs[3],by apply Array.ext <;> simp [kM]; intro i hi; rcases i with _ | _ | _ | _ | i <;> simp <;> omega⟩
 match xs,hlen with
 | [y0,y1,y2],_ =>
   rw [hq0,hr0] at h0;rw [hq1,hr1] at h1;rw [hq2,hr2] at h2;simp [Value.cells] at h0 h1 h2;obtain ⟨C,ec,_,wc⟩ := DataW.trod_int uc1 h1;obtain ⟨a1,l1,k1,z1,e1,w1⟩ := Vk u1 ue uc h2;obtain ⟨x0,x1,k',_,_,g0',g1'⟩ := trod_struct2 hg h0;rw [q0,r0] at g0';rw [q1,r1] at g1';simp at g0' g1';obtain ⟨n,e0,_,wn⟩ := DataW.trod_int s0 g0';obtain ⟨a,len,cap,Es,e2,hE⟩ := Qx ht he ce o0 o1 c0 c1 t0 t1 g1';simp at e0 e1 e2 ec;subst e0; subst e1; subst e2; subst ec;exact ⟨n,a,len,cap,Es,C,a1,l1,k1,z1,rfl,hE,w1,wn,wc,lt0⟩
theorem ae2 {w : World} {n C : Int} {a a1 : Option Addr} {len cap l1 k1 : Nat} {Es : List Ed} {z1 : List Int} (h : UC w a len cap Es) (h1 : Pm .i64 w a1 l1 k1 z1) : bI (Rd (fun _ => False) [] w) [] (.agg [.int .i64 n,.list 2 (bm Es),.int .i64 C,.list 1 ((z1.take l1).map (AV.int .i64))]) (.agg #[.int .i64 n,.slice a len cap,.int .i64 C,.slice a1 l1 k1]) := by
 have e1 := XD h1;generalize (z1.take l1).map (AV.int .i64) = X1 at *;refine .agg _ _ _ rfl fun i c v hc hv => ?_
 match i with
 | 0 => simp at hc hv; subst hc; subst hv; exact .int _ _ _
 | 1 => simp at hc hv; subst hc; subst hv; exact ahg h
 | 2 => simp at hc hv; subst hc; subst hv; exact .int _ _ _
 | 3 => simp at hc hv; subst hc; subst hv; exact e1
 | i + 4 => simp at hc
end Go.Bm
