/- A graph that came in: its number of nodes and its edges, as the machine by value reads them. -/
import Derived.Test.YteomjfokokneoaaDoorMe
import Derived.Test.YteomjfokokneoaaDoorGrfP
import Derived.Deep.SlicePairs
import Derived.OpenShut
open List renaming getD_eq_getElem?_getD → cM, getElem?_eq_getElem → aI
namespace Go.Bm
open Go.Am Go.ChangeShapes Go.WideShapes Go.Deep
def Tt (w : World) (a : Option Addr) (len cap : Nat) (Es : List Ed) : Prop :=
 (a = none /\ len = 0 /\ cap = 0 /\ Es = []) \/
 ∃ x,a = some x /\ len <= cap /\ cap <= maxLen /\ Es.length = len /\ ∀ i (h : i < Es.length),w.cell? (x.add (i * 2)) = some (.int .i64 Es[i].1) /\ w.cell? (x.add (i * 2 + 1)) = some (.int .i64 Es[i].2) /\ (Lit.int .i64 Es[i].1).wf = true /\ (Lit.int .i64 Es[i].2).wf = true
theorem adW {w : World} {a : Option Addr} {len cap : Nat} {Es : List Ed} (h : Tt w a len cap Es) : bN (Rd (fun _ => False) [] w) [] (.list 2 (dy Es)) (.slice a len cap) := by
 rcases h with ⟨rfl,rfl,rfl,rfl⟩ | ⟨x,rfl,hl,hm,hz,hc⟩
 ·exact .jM _ _
 ·have get : ∀ {i j : Nat} {y c : AV},(dy Es)[i]? = some y -> y.cells[j]? = some c -> ∃ h : i < Es.length,(j = 0 /\ c = .int .i64 Es[i].1) \/ (j = 1 /\ c = .int .i64 Es[i].2) := by
   intro i j y c hy hcj;rw [au] at hy;cases he : Es[i]? with
   | none => rw [he] at hy; cases hy
   | some e =>
     rw [he] at hy;cases hy;obtain ⟨hi,rfl⟩ := List.getElem?_eq_some_iff.1 he;refine ⟨hi,?_⟩
     match j with
     | 0 => simp [aT,AV.cells] at hcj; exact .inl ⟨rfl,hcj.symm⟩
     | 1 => simp [aT,AV.cells] at hcj; exact .inr ⟨rfl,hcj.symm⟩
     | j + 2 => simp [aT,AV.cells] at hcj
  refine .tS _ 2 _ x len cap (fun i j => .int .i64 (if j = 0 then (Es.getD i (0,0)).1 else (Es.getD i (0,0)).2)) (by rw [ai,hz]) hl ?_ ?_ ?_
  ·intro y hy;obtain ⟨e,_,rfl⟩ := List.mem_map.1 hy;rfl
  ·intro i j y c hy hcj;obtain ⟨hi,⟨rfl,rfl⟩ | ⟨rfl,rfl⟩⟩ := get hy hcj
   ·exact ⟨id,bK.nil _,by rw [if_pos rfl,cM,aI hi]; exact (hc i hi).1⟩
   ·exact ⟨id,bK.nil _,by rw [if_neg (by decide),cM,aI hi]; exact (hc i hi).2.1⟩
  ·intro i j y c hy hcj;obtain ⟨hi,⟨rfl,rfl⟩ | ⟨rfl,rfl⟩⟩ := get hy hcj
   ·rw [if_pos rfl,cM,aI hi]; exact .int _ _ _
   ·rw [if_neg (by decide),cM,aI hi]; exact .int _ _ _
theorem O9 {H : Type} {enc : TypeId × Value -> H} {P : Program} {w : World} {t e : TypeId} {f0 f1 : Field} {fuel : Nat} {cs : List Value} {x : DataW H × List MemPlace} (ht : P.underlying t = some (.slice e)) (he : P.underlying e = some (.struct #[f0,f1]))
  (ce : P.cellsOf e = 2) (o0 : f0.offset = 0) (o1 : f1.offset = 1) (c0 : P.cellsOf f0.type = 1) (c1 : P.cellsOf f1.type = 1) (t0 : P.underlying f0.type = some (.int .i64)) (t1 : P.underlying f1.type = some (.int .i64))
  (h : DataW.trod enc P w 0 (fun _ => true) true fuel t cs = some x) : ∃ a len cap Es,cs = [.slice a len cap] /\ Tt w a len cap Es := by
 rcases open_slice_pairs ht he ce o0 o1 c0 c1 h with ⟨rfl,_⟩ | ⟨a,len,cap,m,n,V0,V1,D0,D1,P0,P1,rfl,_,hl,hm,hmm,_,hi⟩
 ·exact ⟨none,0,0,[],rfl,.inl ⟨rfl,rfl,rfl,rfl⟩⟩
 ·have hlm : len <= m := by rw [hmm]; split <;> omega
  have each : ∀ i,i < len -> ∃ q : Int × Int,V0 i = .int .i64 q.1 /\ V1 i = .int .i64 q.2 /\ (Lit.int .i64 q.1).wf = true /\ (Lit.int .i64 q.2).wf = true := by
   intro i bA;obtain ⟨_,_,g0,g1⟩ := hi i (by omega);obtain ⟨u,e0,_,w0⟩ := DataW.trod_int t0 g0;obtain ⟨v,e1,_,w1⟩ := DataW.trod_int t1 g1;exact ⟨(u,v),by simpa using e0,by simpa using e1,w0,w1⟩
  obtain ⟨q,hq⟩ := choose_lt each;refine ⟨some a,len,cap,(List.range len).map q,rfl,.inr ⟨a,rfl,hl,hm,by simp,fun i h => ?_⟩⟩;have bA : i < len := by simpa using h
  obtain ⟨h0,h1,_,_⟩ := hi i (by omega);obtain ⟨q0,q1,q2,q3⟩ := hq i bA;simp only [List.getElem_map,List.getElem_range];exact ⟨by rw [h0,q0],by rw [h1,q1],q2,q3⟩
/- A two-sided graph and a pair of sets that came in, as the machine by value reads them. -/
theorem AK {H : Type} {enc : TypeId × Value -> H} {P : Program} {w : World} {t e : TypeId} {fuel : Nat} {cs : List Value} {x : DataW H × List MemPlace} (ht : P.underlying t = some (.slice e)) (he : P.underlying e = some (.int .i64)) (ce : P.cellsOf e = 1)
  (h : DataW.trod enc P w 0 (fun _ => true) true fuel t cs = some x) : ∃ a len cap zs,cs = [.slice a len cap] /\ w5 .i64 w a len cap zs := by
 rcases open_ints ht he ce h with ⟨dv,hx⟩ | ⟨x,l,c,zs,dv,_,hl,hm,hz,hx,kz,hwz⟩
 ·exact ⟨none,0,0,[],dv,.inl ⟨rfl,rfl,rfl,rfl⟩⟩
 ·exact ⟨some x,l,c,zs,dv,.inr ⟨_,rfl,hl,hm,by simpa using hz,kz,hwz⟩⟩
theorem open_pair {H : Type} {enc : TypeId × Value -> H} {P : Program} {w : World} {base : Nat} {tp e0 e1 : TypeId} {g0 g1 : Field} {v : Value} {d : DataW H} {p : List MemPlace} (hg : P.underlying tp = some (.struct #[g0,g1])) (cg : P.cellsOf tp = 2)
  (q0 : g0.offset = 0) (q1 : g1.offset = 1) (r0 : P.cellsOf g0.type = 1) (r1 : P.cellsOf g1.type = 1) (s0 : P.underlying g0.type = some (.slice e0)) (s1 : P.underlying g1.type = some (.slice e1)) (t0 : P.underlying e0 = some (.int .i64)) (t1 : P.underlying e1 = some (.int .i64)) (c0 : P.cellsOf e0 = 1) (c1 : P.cellsOf e1 = 1)
  (hv : Value.okWide P w .any base tp v) (h : DataW.Trod enc P w 0 (fun _ => true) true tp v d p) :
  ∃ a0 l0 k0 z0 a1 l1 k1 z1,v = .agg #[.slice a0 l0 k0,.slice a1 l1 k1] /\ w5 .i64 w a0 l0 k0 z0 /\ w5 .i64 w a1 l1 k1 z1 /\ ∀ x ∈ p,x.block < w.heap.size := by
 obtain ⟨cs,rfl,nk⟩ := okWide_struct hg hv;have lt0 : ∀ x ∈ p,x.block < w.heap.size := by obtain ⟨m,hm⟩ := h; exact DataW.trod_lt m _ _ _ hm
 obtain ⟨fuel,hf⟩ := h;obtain ⟨y0,y1,k,_,_,h0,h1⟩ := trod_struct2 hg hf;rw [cg] at nk;obtain ⟨v0,v1,rfl⟩ : ∃ v0 v1,cs = #[v0,v1] := ⟨cs[0],cs[1],by apply Array.ext <;> simp [nk]; intro i hi; rcases i with _ | _ | i <;> simp <;> omega⟩;rw [q0,r0] at h0;rw [q1,r1] at h1;simp [Value.cells] at h0 h1;obtain ⟨a0,l0,k0,z0,e0,w0⟩ := AK s0 t0 c0 h0;obtain ⟨a1,l1,k1,z1,e1,w1⟩ := AK s1 t1 c1 h1;simp at e0 e1;subst e0; subst e1;exact ⟨a0,l0,k0,z0,a1,l1,k1,z1,rfl,w0,w1,lt0⟩
theorem aaa {w : World} {a0 a1 : Option Addr} {l0 k0 l1 k1 : Nat} {z0 z1 : List Int} (h0 : w5 .i64 w a0 l0 k0 z0) (h1 : w5 .i64 w a1 l1 k1 z1) : bN (Rd (fun _ => False) [] w) [] (.agg [.list 1 ((z0.take l0).map (AV.int .i64)),.list 1 ((z1.take l1).map (AV.int .i64))]) (.agg #[.slice a0 l0 k0,.slice a1 l1 k1]) := by
 have e0 := Dy h0;have e1 := Dy h1;generalize (z0.take l0).map (AV.int .i64) = X0 at *;generalize (z1.take l1).map (AV.int .i64) = X1 at *;refine .agg _ _ _ rfl fun i c v hc hv => ?_
 match i with
 | 0 => simp at hc hv; subst hc; subst hv; exact e0
 | 1 => simp at hc hv; subst hc; subst hv; exact e1
 | i + 2 => simp at hc
theorem O8 {H : Type} {enc : TypeId × Value -> H} {P : Program} {w : World} {base : Nat} {ts e e1 : TypeId} {h0' Vy g0 g1 f0 f1 : Field} {v : Value} {d : DataW H} {p : List MemPlace} (hs : P.underlying ts = some (.struct #[h0',Vy])) (S9 : P.cellsOf ts = 3) (hq0 : h0'.offset = 0) (hq1 : Vy.offset = 2) (hr0 : P.cellsOf h0'.type = 2) (hr1 : P.cellsOf Vy.type = 1)
  (hg : P.underlying h0'.type = some (.struct #[g0,g1]))
  (q0 : g0.offset = 0) (q1 : g1.offset = 1) (r0 : P.cellsOf g0.type = 1) (r1 : P.cellsOf g1.type = 1) (s0 : P.underlying g0.type = some (.int .i64)) (ht : P.underlying g1.type = some (.slice e)) (he : P.underlying e = some (.struct #[f0,f1]))
  (ce : P.cellsOf e = 2) (o0 : f0.offset = 0) (o1 : f1.offset = 1) (c0 : P.cellsOf f0.type = 1) (c1 : P.cellsOf f1.type = 1) (t0 : P.underlying f0.type = some (.int .i64)) (t1 : P.underlying f1.type = some (.int .i64))
  (u1 : P.underlying Vy.type = some (.slice e1)) (ue : P.underlying e1 = some (.int .i64)) (uc : P.cellsOf e1 = 1)
  (hv : Value.okWide P w .any base ts v) (h : DataW.Trod enc P w 0 (fun _ => true) true ts v d p) :
  ∃ n a len cap Es a1 l1 k1 z1,v = .agg #[.int .i64 n,.slice a len cap,.slice a1 l1 k1] /\ Tt w a len cap Es /\ w5 .i64 w a1 l1 k1 z1 /\ (Lit.int .i64 n).wf = true /\ ∀ x ∈ p,x.block < w.heap.size := by
 obtain ⟨cs,rfl,nk⟩ := okWide_struct hs hv;have lt0 : ∀ x ∈ p,x.block < w.heap.size := by obtain ⟨m,hm⟩ := h; exact DataW.trod_lt m _ _ _ hm
 obtain ⟨fuel,hf⟩ := h;obtain ⟨y0,y1,k,_,_,h0,h1⟩ := trod_struct2 hs hf;rw [S9] at nk;obtain ⟨v0,v1,v2,rfl⟩ : ∃ v0 v1 v2,cs = #[v0,v1,v2] := ⟨cs[0],cs[1],cs[2],by apply Array.ext <;> simp [nk]; intro i hi; rcases i with _ | _ | _ | i <;> simp <;> omega⟩;rw [hq0,hr0] at h0;rw [hq1,hr1] at h1;simp [Value.cells] at h0 h1;obtain ⟨a1,l1,k1,z1,e1,w1⟩ := AK u1 ue uc h1;obtain ⟨x0,x1,k',_,_,g0',g1'⟩ := trod_struct2 hg h0;rw [q0,r0] at g0';rw [q1,r1] at g1';simp at g0' g1';obtain ⟨n,e0,_,wn⟩ := DataW.trod_int s0 g0';obtain ⟨a,len,cap,Es,e2,hE⟩ := O9 ht he ce o0 o1 c0 c1 t0 t1 g1';simp at e0 e1 e2;subst e0; subst e1; subst e2;exact ⟨n,a,len,cap,Es,a1,l1,k1,z1,rfl,hE,w1,wn,lt0⟩
theorem VT {w : World} {n : Int} {a a1 : Option Addr} {len cap l1 k1 : Nat} {Es : List Ed} {z1 : List Int} (h : Tt w a len cap Es) (h1 : w5 .i64 w a1 l1 k1 z1) : bN (Rd (fun _ => False) [] w) [] (.agg [.int .i64 n,.list 2 (dy Es),.list 1 ((z1.take l1).map (AV.int .i64))]) (.agg #[.int .i64 n,.slice a len cap,.slice a1 l1 k1]) := by
 have e1 := Dy h1;generalize (z1.take l1).map (AV.int .i64) = X1 at *;refine .agg _ _ _ rfl fun i c v hc hv => ?_
 match i with
 | 0 => simp at hc hv; subst hc; subst hv; exact .int _ _ _
 | 1 => simp at hc hv; subst hc; subst hv; exact adW h
 | 2 => simp at hc hv; subst hc; subst hv; exact e1
 | i + 3 => simp at hc
theorem V4 {w : World} {a : Option Addr} {len cap : Nat} {zs : List Int} (h : w5 .i64 w a len cap zs) : (zs.take len).length <= 9223372036854775807 := by
 rcases h with ⟨_,rfl,_,rfl⟩ | ⟨y,_,h4,h5,h6,_⟩
 ·simp
 ·rw [List.length_take];have : maxLen = 9223372036854775807 := rfl;omega
end Go.Bm
