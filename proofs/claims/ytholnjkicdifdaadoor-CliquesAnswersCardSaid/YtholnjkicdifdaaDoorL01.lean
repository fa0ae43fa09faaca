/- What functions of cohesionmake return: Few, New, Mod, Next, Set. -/
import Derived.Test.YtholnjkicdifdaaDoorUseM
import Derived.Test.YtholnjkicdifdaaDoorCfS
import Derived.Test.YtholnjkicdifdaaDoorGrfP
set_option linter.unusedSimpArgs false
set_option linter.unusedVariables false
set_option maxRecDepth 100000
set_option maxHeartbeats 4000000
namespace Go.BmP
open Go.Am Go.Bm
theorem nle1 (n : Nat) : (n + 1 <= n) ↔ False := ⟨fun h => by omega,False.elim⟩
theorem few_run (l : List Int) : callL cfgS nQb [.list 1 (ints l)] [] = some (.bool (decide ((l.length : Int) <= 500)),[]) := by
 rw [callL_end oQb sQb (Nat.le_of_ble_eq_true rfl)];unfold qQb cQb;simp [rQbX0,rQbX1,blk,eds_length,eds_get,edsAt,edAV,allLeaf_eds,cleanL_eds,cleanL_ints,ints_length,ints_get,intsAt,endL,finB]
def dk (l : List Int) (at_ : Nat) : Blk := some [.list 1 (ints l),.int .i64 at_]
theorem modI_eq (x k : Int) (h0 : 0 < k) (h1 : k < 4611686018427387904) : (IntKind.i64.wrap (x.tmod k + k)).tmod k = x % k := by
 have e : x % k = (x.tmod k) % k := by
  have := Int.mul_tdiv_add_tmod x k
  conv => lhs; rw [<- this]
  rw [Int.add_comm,Int.add_mul_emod_self_left]
 have h2 := Int.tmod_lt_of_pos x h0
 have h3 : -k < x.tmod k := by
  have := Int.tmod_lt_of_pos (-x) h0;rw [Int.neg_tmod] at this;omega
 rw [wrap_id (by omega) (by omega),Int.tmod_eq_emod_of_nonneg (by omega),e,Int.add_emod_right]
theorem modk_run (x k : Int) (h0 : 0 < k) (h1 : k < 4611686018427387904) : callL cfgS nQy [.int .i64 x,.int .i64 k] [] = some (.int .i64 (x % k),[]) := by
 rw [callL_end oQy sQy (Nat.le_of_ble_eq_true rfl),<- modI_eq x k h0 h1];have hk : ¬ k = 0 := by omega
 unfold qQy cQy;simp [rQyX0,rQyX1,hk,blk,eds_length,eds_get,edsAt,edAV,allLeaf_eds,cleanL_eds,cleanL_ints,ints_length,ints_get,intsAt,endL,finB]
def nxV (l : List Int) (a : Nat) (n : Int) : Int := if n < 1 then 0 else if l.length <= a then 0 else l.getD a 0 % n
def nxA (l : List Int) (a : Nat) (n : Int) : Nat := if n < 1 then a else if l.length <= a then a else a + 1
theorem nxV_bd (l : List Int) (a : Nat) {n : Int} (h : 1 <= n) : 0 <= nxV l a n /\ nxV l a n < n := by
 unfold nxV;rw [if_neg (by omega)];split
 ·omega
 ·exact ⟨Int.emod_nonneg _ (by omega),Int.emod_lt_of_pos _ (by omega)⟩
def Rest (R : Heap) : Prop := (∀ g,mapH g R = R) /\ allB R = true /\ (∀ p b,borH p b R = none) /\ (∀ f,anyH f R = false) /\ ∀ p b,seesB p b R = []
theorem next_run0 (l : List Int) (hl : l.length <= 500) (a : Nat) (n : Int) (hn : n < 4611686018427387904) (R : Heap) (hR : Rest R) : callL cfgS nQi [.ptr 0 0,.int .i64 n] (dk l a :: R) = some (.int .i64 (nxV l a n),dk l (nxA l a n) :: R) := by
 obtain ⟨r1,r2,r3,r4,r5⟩ := hR;rw [callL_end oQi sQi (Nat.le_of_ble_eq_true rfl)];unfold qQi cQi nxV nxA dk;by_cases h0 : n < 1
 ·simp [rQiX0,rQiX1,rQiX2,rQiX3,rQiX4,rQiX5,h0,finS,plp,swS,r1,r2,r3,r4,r5,nle1,blk,eds_length,eds_get,edsAt,edAV,allLeaf_eds,cleanL_eds,cleanL_ints,ints_length,ints_get,intsAt,endL,finB]
 ·have h0' : ¬ n < 1 := h0;by_cases h1 : l.length <= a
  ·have h1' : (l.length : Int) <= a := by omega
   simp [rQiX0,rQiX1,rQiX2,rQiX3,rQiX4,rQiX5,h0,h1,h1',finS,plp,swS,r1,r2,r3,r4,r5,nle1,blk,eds_length,eds_get,edsAt,edAV,allLeaf_eds,cleanL_eds,cleanL_ints,ints_length,ints_get,intsAt,endL,finB]
  ·have h1' : ¬ (l.length : Int) <= a := by omega
   have h2 : a < l.length := by omega
   have h2' : (a : Int) < l.length := by omega
   have hw := wrapS (i := a) (by omega);have hm := modk_run l[a] n (by omega) hn;simp [rQiX0,rQiX1,rQiX2,rQiX3,rQiX4,rQiX5,h0,h1,h1',h2,h2',hw,hm,idx,sQy,iQy,vQy,lQy,finS,plp,swS,r1,r2,r3,r4,r5,nle1,blk,eds_length,eds_get,edsAt,edAV,allLeaf_eds,cleanL_eds,cleanL_ints,ints_length,ints_get,intsAt,endL,finB]
theorem next_run (l : List Int) (hl : l.length <= 500) (a : Nat) (n : Int) (hn : n < 4611686018427387904) (R : Heap) (hR : Rest R) : callL cfgS nQi [.ptr 0 0,.int .i64 n] [dk l a] = some (.int .i64 (nxV l a n),[dk l (nxA l a n)]) := next_run0 l hl a n hn [] ⟨fun _ => rfl,rfl,fun _ _ => rfl,fun _ => rfl,fun _ _ => rfl⟩
theorem set_loop (l : List Int) (hl : l.length <= 500) (N : Nat) (hN : N <= 64) (R : Heap) (hR : Rest R) : ∀ (k v a : Nat) (o : List Int),v + k = N -> o.length <= v -> Up o -> (∀ x ∈ o,0 <= x /\ x < (v : Int)) -> ∃ o' a',codeL cfgS (R.length + 1) (.loop lQhX0) ⟨[(0,.ptr 0 0),(1,.int .i64 N),(5,.own 1 (ints o)),(6,.int .i64 v)],dk l a :: R⟩ = some (.exit 0,⟨[(0,.ptr 0 0),(1,.int .i64 N),(5,.own 1 (ints o')),(6,.int .i64 N),(9,.bool false)],dk l a' :: R⟩) /\ (o'.length <= N /\ Up o' /\ ∀ x ∈ o',0 <= x /\ x < (N : Int))
 | 0,v,a,o,hi,ho,hu,hb => by
   obtain rfl : v = N := by omega
   exact ⟨o,a,loop_exit (by unfold lQhX0 dk; simp [rQhX0,rQhX1,rQhX2,rQhX3,rQhX4,rQhX5,rQhX6,rQhX7,nle1,blk,eds_length,eds_get,edsAt,edAV,allLeaf_eds,cleanL_eds,cleanL_ints,ints_length,ints_get,intsAt,endL,finB]),ho,hu,hb⟩
 | k + 1,v,a,o,hi,ho,hu,hb => by
   have h1 : (v : Int) < N := by omega
   have hw := wrapS (i := v) (by omega);have hL : o.length + 1 <= 4294967296 := by omega
   have hx := next_run l hl a 2 (by omega) R hR;obtain ⟨r1,r2,r3,r4,r5⟩ := hR;unfold dk at hx;by_cases he : nxV l a 2 = 1
   ·obtain ⟨o',a',e,p⟩ := set_loop l hl N hN R ⟨r1,r2,r3,r4,r5⟩ k (v + 1) (nxA l a 2) (o ++ [(v : Int)]) (by omega) (by simp; omega) (by
     unfold Up; rw [List.pairwise_append];exact ⟨hu,by simp,fun x hx y hy => by simp at hy; subst hy; exact (hb x hx).2⟩) (fun x hx => by
     rcases List.mem_append.1 hx with hx | hx
     ·have := hb x hx; omega
     ·simp at hx; omega)
    exact ⟨o',a',(loop_next (by unfold lQhX0 dk; simp [rQhX0,rQhX1,rQhX2,rQhX3,rQhX4,rQhX5,rQhX6,rQhX7,h1,hw,hL,hx,he,LIM,ints_snoc,ints_take,sQi,iQi,vQi,lQi,r1,r2,r3,r4,r5,plp,plpL,allB,notBox,swC,seesC,inBox,nle1,blk,eds_length,eds_get,edsAt,edAV,allLeaf_eds,cleanL_eds,cleanL_ints,ints_length,ints_get,intsAt,endL,finB])).trans e,p⟩
   ·obtain ⟨o',a',e,p⟩ := set_loop l hl N hN R ⟨r1,r2,r3,r4,r5⟩ k (v + 1) (nxA l a 2) o (by omega) (by omega) hu (fun x hx => by have := hb x hx; omega);exact ⟨o',a',(loop_next (by unfold lQhX0 dk; simp [rQhX0,rQhX1,rQhX2,rQhX3,rQhX4,rQhX5,rQhX6,rQhX7,h1,hw,hL,hx,he,LIM,ints_snoc,ints_take,sQi,iQi,vQi,lQi,r1,r2,r3,r4,r5,plp,plpL,allB,notBox,swC,seesC,inBox,nle1,blk,eds_length,eds_get,edsAt,edAV,allLeaf_eds,cleanL_eds,cleanL_ints,ints_length,ints_get,intsAt,endL,finB])).trans e,p⟩
theorem set_run (l : List Int) (hl : l.length <= 500) (N : Nat) (hN : N <= 64) (R : Heap) (hR : Rest R) (a : Nat) : ∃ o a',callL cfgS nQh [.ptr 0 0,.int .i64 N] (dk l a :: R) = some (.list 1 (ints o),dk l a' :: R) /\ (o.length <= N /\ Up o /\ ∀ x ∈ o,0 <= x /\ x < (N : Int)) := by
 obtain ⟨o,a',e,p⟩ := set_loop l hl N hN R hR N 0 a [] (by omega) (by simp) (by simp [Up]) (by simp);refine ⟨o,a',?_,p⟩;rw [nat0,ints_nil] at e;obtain ⟨r1,r2,r3,r4,r5⟩ := hR;rw [callL_end oQh sQh (Nat.le_of_ble_eq_true rfl)];unfold dk at e ⊢;unfold qQh cQh;simp [rQhX0,rQhX1,rQhX2,rQhX3,rQhX4,rQhX5,rQhX6,rQhX7,e,ints_take,finS,plp,swS,r1,r2,r3,r4,r5,nle1,blk,eds_length,eds_get,edsAt,edAV,allLeaf_eds,cleanL_eds,cleanL_ints,ints_length,ints_get,intsAt,endL,finB]
/- What mk.Graph returns: a graph that is in order. -/
theorem take_snocE (l : List Ed) (x : Ed) : (l ++ [x]).take (l.length + 1) = l ++ [x] := List.take_of_length_le (by simp)
def IVG (N : Nat) (o : List Ed) (u v : Nat) : Prop := UpE o /\ (∀ e ∈ o,0 <= e.1 /\ e.1 < e.2 /\ e.2 < (N : Int)) /\ (∀ e ∈ o,e.1 < (u : Int) \/ e.1 = (u : Int) /\ e.2 < (v : Int)) /\ o.length <= u * 64 + v
theorem ivg_skip {N : Nat} {o : List Ed} {u v : Nat} (h : IVG N o u v) : IVG N o u (v + 1) :=
 ⟨h.1,h.2.1,fun e he => by have := h.2.2.1 e he; omega,by have := h.2.2.2; omega⟩
theorem ivg_add {N : Nat} {o : List Ed} {u v : Nat} (h : IVG N o u v) (huv : u < v) (hv : v < N) : IVG N (o ++ [((u : Int),(v : Int))]) u (v + 1) := by
 obtain ⟨h1,h2,h3,h4⟩ := h;refine ⟨?_,fun e he => ?_,fun e he => ?_,by simp; omega⟩
 ·unfold UpE;rw [List.pairwise_append];refine ⟨h1,by simp,fun x hx y hy => ?_⟩;simp at hy;subst hy;have := h3 x hx;unfold ltE;simp only;omega
 ·rcases List.mem_append.1 he with he | he
  ·exact h2 e he
  ·simp at he; subst he; exact ⟨by simp,by simpa using huv,by simpa using hv⟩
 ·rcases List.mem_append.1 he with he | he
  ·have := h3 e he; omega
  ·simp at he; subst he; simp; omega
def gZ : Blk := some [.int .i64 0,.own 2 []]
def gB (N : Int) (o : List Ed) : Blk := some [.int .i64 N,.own 2 (eds o)]
theorem rest_g (N : Int) (o : List Ed) : Rest [gZ,gB N o] := ⟨fun _ => rfl,rfl,fun _ _ => rfl,fun _ => rfl,fun _ _ => rfl⟩
theorem rest_z : Rest [gZ] := ⟨fun _ => rfl,rfl,fun _ _ => rfl,fun _ => rfl,fun _ _ => rfl⟩
def g1St (l : List Int) (a N : Nat) (D : Int) (u v : Nat) (o : List Ed) (J : Env) : St := ⟨(0,.ptr 0 0) :: (4,.ptr 1 0) :: (5,.ptr 2 0) :: (6,.int .i64 D) :: (7,.int .i64 u) :: (8,.int .i64 v) :: J,[dk l a,gZ,gB N o]⟩
theorem g_round (l : List Int) (hl : l.length <= 500) (N : Nat) (hN : N <= 64) (D : Int) (hD : 0 <= D /\ D <= 5) (u v a : Nat) (o : List Ed) (huv : u < v) (hv : v < N) (ho : o.length <= 100000) : ∃ a',codeL cfgS 1 lQfX0 (g1St l a N D u v o []) = some (.normal,g1St l a' N D u (v + 1) o []) \/ codeL cfgS 1 lQfX0 (g1St l a N D u v o []) = some (.normal,g1St l a' N D u (v + 1) (o ++ [((u : Int),(v : Int))]) []) := by
 have h1 : (v : Int) < N := by omega
 have hw := wrapS (i := v) (by omega);have hL : o.length + 1 <= 4294967296 := by omega
 have hx := next_run l hl a 5 (by omega) [gZ,gB N o] (rest_g N o);have w5 : IntKind.i64.wrap (5 - D) = 5 - D := wrap_id (by omega) (by omega);simp only [dk,gZ,gB] at hx;by_cases hd : 5 - D <= nxV l a 5
 ·refine ⟨nxA l a 5,.inr ?_⟩;unfold lQfX0 g1St dk gZ gB;simp [rQfX0,rQfX1,rQfX2,rQfX3,rQfX4,rQfX5,rQfX6,rQfX7,rQfX8,rQfX9,rQfX10,rQfX11,rQfX12,rQfX13,h1,hw,hd,hL,hx,w5,LIM,eds_snocM,eds_take,take_snocE,sQi,iQi,vQi,lQi,plp,plpL,allB,notBox,swC,seesC,inBox,relB,handBox,mvBB,mvRtB,blk,eds_length,eds_get,edsAt,edAV,allLeaf_eds,cleanL_eds,cleanL_ints,ints_length,ints_get,intsAt,endL,finB]
 ·refine ⟨nxA l a 5,.inl ?_⟩;unfold lQfX0 g1St dk gZ gB;simp [rQfX0,rQfX1,rQfX2,rQfX3,rQfX4,rQfX5,rQfX6,rQfX7,rQfX8,rQfX9,rQfX10,rQfX11,rQfX12,rQfX13,h1,hw,hd,hx,w5,sQi,iQi,vQi,lQi,plp,plpL,allB,notBox,swC,seesC,inBox,blk,eds_length,eds_get,edsAt,edAV,allLeaf_eds,cleanL_eds,cleanL_ints,ints_length,ints_get,intsAt,endL,finB]
theorem g_in (l : List Int) (hl : l.length <= 500) (N : Nat) (hN : N <= 64) (D : Int) (hD : 0 <= D /\ D <= 5) (u : Nat) : ∀ (k v a : Nat) (o : List Ed),v + k = N -> u < v -> IVG N o u v -> ∃ a' o',codeL cfgS 1 (.loop lQfX0) (g1St l a N D u v o []) = some (.exit 2,g1St l a' N D u N o' [(41,.bool false)]) /\ IVG N o' u N
 | 0,v,a,o,hi,huv,hI => by
   obtain rfl : v = N := by omega
   refine ⟨a,o,loop_exit ?_,hI⟩;unfold lQfX0 g1St dk gZ gB;simp [rQfX0,rQfX1,rQfX2,rQfX3,rQfX4,rQfX5,rQfX6,rQfX7,rQfX8,rQfX9,rQfX10,rQfX11,rQfX12,rQfX13,blk,eds_length,eds_get,edsAt,edAV,allLeaf_eds,cleanL_eds,cleanL_ints,ints_length,ints_get,intsAt,endL,finB]
 | k + 1,v,a,o,hi,huv,hI => by
   have hlen := hI.2.2.2;obtain ⟨a1,e | e⟩ := g_round l hl N hN D hD u v a o huv (by omega) (by omega)
   ·obtain ⟨a',o',e2,hI2⟩ := g_in l hl N hN D hD u k (v + 1) a1 o (by omega) (by omega) (ivg_skip hI);exact ⟨a',o',(loop_next e).trans e2,hI2⟩
   ·obtain ⟨a',o',e2,hI2⟩ := g_in l hl N hN D hD u k (v + 1) a1 _ (by omega) (by omega) (ivg_add hI huv (by omega));exact ⟨a',o',(loop_next e).trans e2,hI2⟩
def g2St (l : List Int) (a N : Nat) (D : Int) (u : Nat) (o : List Ed) (J : Env) : St := ⟨(0,.ptr 0 0) :: (4,.ptr 1 0) :: (5,.ptr 2 0) :: (6,.int .i64 D) :: (7,.int .i64 u) :: J,[dk l a,gZ,gB N o]⟩
theorem g_out (l : List Int) (hl : l.length <= 500) (N : Nat) (hN : N <= 64) (D : Int) (hD : 0 <= D /\ D <= 5) : ∀ (k u a : Nat) (o : List Ed),u + k = N -> IVG N o u 0 -> ∃ a' o',codeL cfgS 1 (.loop lQfX1) (g2St l a N D u o []) = some (.exit 0,g2St l a' N D N o' [(33,.bool false)]) /\ IVG N o' N 0
 | 0,u,a,o,hi,hI => by
   obtain rfl : u = N := by omega
   refine ⟨a,o,loop_exit ?_,hI⟩;unfold lQfX1 g2St dk gZ gB;simp [rQfX0,rQfX1,rQfX2,rQfX3,rQfX4,rQfX5,rQfX6,rQfX7,rQfX8,rQfX9,rQfX10,rQfX11,rQfX12,rQfX13,blk,eds_length,eds_get,edsAt,edAV,allLeaf_eds,cleanL_eds,cleanL_ints,ints_length,ints_get,intsAt,endL,finB]
 | k + 1,u,a,o,hi,hI => by
   have h1 : (u : Int) < N := by omega
   have hw := wrapS (i := u) (by omega);have hI1 : IVG N o u (u + 1) := ⟨hI.1,hI.2.1,fun e he => by have := hI.2.2.1 e he; have := (hI.2.1 e he).1; omega,by have := hI.2.2.2; omega⟩;obtain ⟨a1,o1,e1,hI2⟩ := g_in l hl N hN D hD u (N - (u + 1)) (u + 1) a o (by omega) (by omega) hI1;have hI3 : IVG N o1 (u + 1) 0 := ⟨hI2.1,hI2.2.1,fun e he => by have := hI2.2.2.1 e he; omega,by have := hI2.2.2.2; omega⟩;obtain ⟨a',o',e2,hI4⟩ := g_out l hl N hN D hD k (u + 1) a1 o1 (by omega) hI3;refine ⟨a',o',(loop_next ?_).trans e2,hI4⟩;unfold g1St dk gZ gB at e1;rw [show ((u + 1 : Nat) : Int) = (u : Int) + 1 from rfl] at e1;unfold lQfX1 g2St dk gZ gB;simp [rQfX0,rQfX1,rQfX2,rQfX3,rQfX4,rQfX5,rQfX6,rQfX7,rQfX8,rQfX9,rQfX10,rQfX11,rQfX12,rQfX13,h1,hw,e1,blk,eds_length,eds_get,edsAt,edAV,allLeaf_eds,cleanL_eds,cleanL_ints,ints_length,ints_get,intsAt,endL,finB]
theorem graph_run (l : List Int) (hl : l.length <= 500) (most : Nat) (hm : most <= 60) (a : Nat) : ∃ N Es a',callL cfgS nQf [.ptr 0 0,.int .i64 most] [dk l a] = some (.agg [.int .i64 (N : Nat),.list 2 (eds Es)],[dk l a']) /\ GOK (N : Int) Es /\ N <= most /\ Es.length <= 10000 := by
 have n1 := next_run l hl a ((most : Int) + 1) (by omega) [gZ] rest_z;obtain ⟨b0,b1⟩ := nxV_bd l a (n := (most : Int) + 1) (by omega);have wm := wrapS (i := most) (by omega)
 -- the number of nodes, drawn once or twice
 obtain ⟨n0,hn0⟩ : ∃ n0 : Nat,nxV l a ((most : Int) + 1) = (n0 : Int) := ⟨(nxV l a ((most : Int) + 1)).toNat,by omega⟩;rw [hn0] at n1 b1
 have key : ∀ (N a2 : Nat),N <= most -> ∃ Es a',(∃ D : Int,(0 <= D /\ D <= 5) /\ nxV l a2 4 + 1 = D) /\ codeL cfgS 1 (.loop lQfX1) (g2St l (nxA l a2 4) N (nxV l a2 4 + 1) 0 [] []) = some (.exit 0,g2St l a' N (nxV l a2 4 + 1) N Es [(33,.bool false)]) /\ IVG N Es N 0 := by
  intro N a2 hN;obtain ⟨c0,c1⟩ := nxV_bd l a2 (n := 4) (by omega);obtain ⟨a',Es,e,hI⟩ := g_out l hl N (by omega) (nxV l a2 4 + 1) (by omega) N 0 (nxA l a2 4) [] (by omega) ⟨by simp [UpE],by simp,by simp,by simp⟩;exact ⟨Es,a',⟨_,by omega,rfl⟩,e,hI⟩
 have fin : ∀ (N : Nat) (Es : List Ed),N <= most -> IVG N Es N 0 -> GOK (N : Int) Es /\ N <= most /\ Es.length <= 10000 := fun N Es hN hI => ⟨⟨by omega,hI.1,hI.2.1⟩,hN,by have := hI.2.2.2; omega⟩;by_cases h4 : n0 < 4
 ·-- a second draw
  have h4' : (n0 : Int) < 4 := by omega
  have n2 := next_run l hl (nxA l a ((most : Int) + 1)) ((most : Int) + 1) (by omega) [gZ,gB n0 []] (rest_g n0 []);obtain ⟨d0,d1⟩ := nxV_bd l (nxA l a ((most : Int) + 1)) (n := (most : Int) + 1) (by omega);obtain ⟨m0,hm0⟩ : ∃ m0 : Nat,nxV l (nxA l a ((most : Int) + 1)) ((most : Int) + 1) = (m0 : Int) := ⟨(nxV l (nxA l a ((most : Int) + 1)) ((most : Int) + 1)).toNat,by omega⟩;rw [hm0] at n2 d1
  obtain ⟨N,hN,eN⟩ : ∃ N : Nat,N <= most /\ (if (n0 : Int) + m0 < most then (n0 : Int) + m0 else (most : Int)) = N := by
   by_cases q : (n0 : Int) + m0 < most
   ·exact ⟨n0 + m0,by omega,by rw [if_pos q]; omega⟩
   ·exact ⟨most,by omega,by rw [if_neg q]⟩
  have ws : IntKind.i64.wrap ((n0 : Int) + m0) = (n0 : Int) + m0 := wrap_id (by omega) (by omega);have n3 := next_run l hl (nxA l (nxA l a ((most : Int) + 1)) ((most : Int) + 1)) 4 (by omega) [gZ,gB N []] (rest_g N []);obtain ⟨Es,a',⟨D,hD,eD⟩,e,hI⟩ := key N (nxA l (nxA l a ((most : Int) + 1)) ((most : Int) + 1)) hN;refine ⟨N,Es,a',?_,fin N Es hN hI⟩;have wD : IntKind.i64.wrap (1 + nxV l (nxA l (nxA l a ((most : Int) + 1)) ((most : Int) + 1)) 4) = D := by rw [wrap_id (by omega) (by omega)]; omega
  rw [eD] at e;rw [callL_end oQf sQf (Nat.le_of_ble_eq_true rfl)];unfold g2St at e;rw [nat0] at e;unfold dk gZ gB at *;rw [show eds [] = [] from rfl] at *;generalize nxV l (nxA l (nxA l a ((most : Int) + 1)) ((most : Int) + 1)) 4 = x4 at *;clear key hI;unfold qQf cQf;simp [rQfX0,rQfX1,rQfX2,rQfX3,rQfX4,rQfX5,rQfX6,rQfX7,rQfX8,rQfX9,rQfX10,rQfX11,rQfX12,rQfX13,n1,n2,n3,e,wm,ws,h4',eN,wD,eds_take,List.take_length,sQi,iQi,vQi,lQi,plp,plpL,allB,notBox,swC,swS,seesC,inBox,offBoxes,offLab,calmB,ptrs,ptrsL,blkE,avE,avLE,finS,relB,handBox,mvBB,mvRtB,blk,eds_length,eds_get,edsAt,edAV,allLeaf_eds,cleanL_eds,cleanL_ints,ints_length,ints_get,intsAt,endL,finB]
 ·have h4' : ¬ (n0 : Int) < 4 := by omega
  have n3 := next_run l hl (nxA l a ((most : Int) + 1)) 4 (by omega) [gZ,gB n0 []] (rest_g n0 []);obtain ⟨Es,a',⟨D,hD,eD⟩,e,hI⟩ := key n0 (nxA l a ((most : Int) + 1)) (by omega);refine ⟨n0,Es,a',?_,fin n0 Es (by omega) hI⟩;have wD : IntKind.i64.wrap (1 + nxV l (nxA l a ((most : Int) + 1)) 4) = D := by rw [wrap_id (by omega) (by omega)]; omega
  rw [eD] at e;rw [callL_end oQf sQf (Nat.le_of_ble_eq_true rfl)];unfold g2St at e;rw [nat0] at e;unfold dk gZ gB at *;rw [show eds [] = [] from rfl] at *;generalize nxV l (nxA l a ((most : Int) + 1)) 4 = x4 at *;clear key hI;unfold qQf cQf;simp [rQfX0,rQfX1,rQfX2,rQfX3,rQfX4,rQfX5,rQfX6,rQfX7,rQfX8,rQfX9,rQfX10,rQfX11,rQfX12,rQfX13,n1,n3,e,wm,h4',wD,eds_take,List.take_length,sQi,iQi,vQi,lQi,plp,plpL,allB,notBox,swC,swS,seesC,inBox,finS,relB,handBox,mvBB,mvRtB,blk,eds_length,eds_get,edsAt,edAV,allLeaf_eds,cleanL_eds,cleanL_ints,ints_length,ints_get,intsAt,endL,finB]
end Go.BmP
