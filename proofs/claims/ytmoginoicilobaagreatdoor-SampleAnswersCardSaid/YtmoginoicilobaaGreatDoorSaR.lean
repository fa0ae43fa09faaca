/- The reservoir, in plain words. -/
import Derived.Test.YtmoginoicilobaaGreatDoorGrfP
import Derived.Test.YtmoginoicilobaaGreatDoorUseM
import Derived.Test.YtmoginoicilobaaGreatDoorT06
import Derived.Test.YtmoginoicilobaaGreatDoorR02d
set_option linter.unusedSimpArgs false
set_option linter.unusedVariables false
open Int renaming toNat_natCast → k7
open List renaming getD_eq_getElem?_getD → bk, getElem?_eq_getElem → af, map_set → TU, mem_append → aD, mem_cons_of_mem → fx, mem_or_eq_of_mem_set → bP, range → wW, take_length → cX, take_of_length_le → aL
open Nat renaming le_of_ble_eq_true → ab, zero_add → dL
namespace Go.BmP
open Go.Am Go.Bm
def QU (size : Int) (ch : List Int) : Nat -> Nat -> List Int -> Option (List Int)
 | 0,_,P => some P
 | k + 1,i,P => if (i : Int) < size then QU size ch k (i + 1) (P ++ [(i : Int)]) else if ch.getD (i - size.toNat) 0 < 0 \/ (i : Int) < ch.getD (i - size.toNat) 0 then none else if ch.getD (i - size.toNat) 0 < size then QU size ch k (i + 1) (P.set (ch.getD (i - size.toNat) 0).toNat (i : Int)) else QU size ch k (i + 1) P
structure Vw (size : Int) (i : Nat) (P : List Int) : Prop where
 len : (P.length : Int) = min (i : Int) size
 nd : P.Nodup
 bd : ∀ x ∈ P,0 <= x /\ x < (i : Int)
theorem JR {size : Int} {i : Nat} {P : List Int} (h : Vw size i P) (k : (i : Int) < size) : Vw size (i + 1) (P ++ [(i : Int)]) := by
 have hl := h.len;refine ⟨by rw [List.length_append,List.length_singleton]; omega,?_,fun x hx => ?_⟩
 ·rw [List.nodup_append];refine ⟨h.nd,by simp,fun a ha b hb => ?_⟩;simp at hb;subst hb;have := h.bd a ha;omega
 ·rcases aD.1 hx with q | q
  ·have := h.bd x q; omega
  ·simp at q; omega
theorem DY {size : Int} {i : Nat} {P : List Int} (h : Vw size i P) (k : ¬ (i : Int) < size) : Vw size (i + 1) P := by
 have hl := h.len;exact ⟨by omega,h.nd,fun x hx => by have := h.bd x hx; omega⟩
theorem Iu : ∀ {P : List Int} {j : Nat} {z : Int},P.Nodup -> z ∉ P -> (P.set j z).Nodup
 | [],j,z,_,_ => by simp
 | x :: r,0,z,h,hz => by
   rw [List.set_cons_zero];rw [List.nodup_cons] at h ⊢;exact ⟨fun q => hz (fx _ q),h.2⟩
 | x :: r,j + 1,z,h,hz => by
   rw [List.set_cons_succ];rw [List.nodup_cons] at h ⊢;refine ⟨fun q => ?_,Iu h.2 fun q => hz (fx _ q)⟩;rcases bP q with a | a
   ·exact h.1 a
   ·exact hz (a ▸ List.mem_cons_self)
theorem JQ {size : Int} {i : Nat} {P : List Int} (h : Vw size i P) (k : ¬ (i : Int) < size) (j : Nat) : Vw size (i + 1) (P.set j (i : Int)) := by
 have hl := h.len;refine ⟨by rw [List.length_set]; omega,Iu h.nd fun q => by have := h.bd _ q; omega,fun x hx => ?_⟩;rcases bP hx with a | a
 ·have := h.bd x a; omega
 ·omega
def wU (n : Nat) (P : List Int) : List Int := ((wW n).map fun i => ((i : Nat) : Int)).filter fun x => decide (x ∈ P)
theorem adS (n : Nat) (P : List Int) : Up (wU n P) := by
 unfold wU Up;refine List.Pairwise.filter _ ?_;rw [List.pairwise_map];exact List.pairwise_lt_range.imp fun k => by omega
theorem aaA {n : Nat} {P : List Int} (h : ∀ x ∈ P,0 <= x /\ x < (n : Int)) (x : Int) : x ∈ wU n P ↔ x ∈ P := by
 unfold wU;rw [List.mem_filter,decide_eq_true_eq,List.mem_map];constructor
 ·exact fun k => k.2
 ·intro k;have := h x k;exact ⟨⟨x.toNat,List.mem_range.2 (by omega),by omega⟩,k⟩
theorem WE (n : Nat) (P : List Int) : wU (n + 1) P = wU n P ++ if (n : Int) ∈ P then [(n : Int)] else [] := by
 unfold wU;rw [List.range_succ,List.map_append,List.filter_append];congr 1;by_cases k : (n : Int) ∈ P
 ·rw [if_pos k]; simp [k]
 ·rw [if_neg k]; simp [k]
/- What sample.Reservoir and ref33.Reservoir return: the same. -/
set_option maxRecDepth 100000
set_option maxHeartbeats 8000000
theorem yP (size : Int) (hs : 1 <= size /\ size <= 4096) (n : Nat) (hn : n <= 4096) (ch : List Int) (hc : (ch.length : Int) = max ((n : Int) - size) 0) : ∀ (k i : Nat) (P : List Int),i + k = n -> Vw size i P -> bj aj 0 (.loop CB) ⟨[(1,.int .i64 size),(2,.list 1 (ints ch)),(8,.own 1 (ints P)),(32,.int .i64 n),(33,.int .i64 i)],[]⟩ =
  match QU size ch k i P with
  | some P' => some (.exit 0,⟨[(1,.int .i64 size),(2,.list 1 (ints ch)),(8,.own 1 (ints P')),(32,.int .i64 n),(33,.int .i64 n),(34,.bool false)],[]⟩)
  | none => some (.ret,⟨[(6,.own 1 []),(7,.int .i64 1)],[]⟩)
 | 0,i,P,hi,hI => by
   obtain rfl : i = n := by omega
   refine bm ?_;generalize ints ch = C at *;generalize ints P = A at *;unfold CB;simp [ql,qk,qj,qi,qh,qg,qf,qe,qd,qc,l7,l6,l5,l4,lZ,lY,lX,lW,lV]
 | k + 1,i,P,hi,hI => by
   have bz : (i : Int) < n := by omega
   have hw := dw (i := i) (by omega);have hl := hI.len;rw [QU];by_cases h1 : (i : Int) < size
   ·rw [if_pos h1];have ih := yP size hs n hn ch hc k (i + 1) (P ++ [(i : Int)]) (by omega) (JR hI h1);rw [<- ih];refine aR ?_;have lx : P.length + 1 <= 4294967296 := by omega
    clear ih hI;generalize ints ch = C at *;unfold CB;simp [ql,qk,qj,qi,qh,qg,qf,qe,qd,qc,l7,l6,l5,l4,lZ,lY,lX,lW,lV,bz,h1,hw,lx,kR,er,dE,cX,ae]
   ·rw [if_neg h1];obtain ⟨j,hj⟩ : ∃ j : Nat,i - size.toNat = j := ⟨_,rfl⟩;have jl : j < ch.length := by omega
    have gj : ch.getD j 0 = ch[j] := by rw [bk,af jl]; rfl
    rw [hj,gj];have w1 : IntKind.i64.wrap ((i : Int) - size) = (j : Int) := by rw [cS (by omega) (by omega)]; omega
    have j2 : (j : Int) < ch.length := by omega
    have g3 : (ints ch)[j]? = some (.int .i64 ch[j]) := by rw [aI,af jl]; rfl
    have g4 : ∀ h,(ints ch)[j]'h = .int .i64 ch[j] := fun h => aT ..;have g5 := ae ch;have ge := ae P;generalize ch[j] = c at *;by_cases h2 : c < 0
    ·rw [if_pos (.inl h2)];refine dj ?_;generalize ints ch = C at *;generalize ints P = A at *;unfold CB;simp [ql,qk,qj,qi,qh,qg,qf,qe,qd,qc,l7,l6,l5,l4,lZ,lY,lX,lW,lV,bz,h1,hw,w1,j2,jl,g3,g4,g5,h2,idx]
    by_cases h3 : (i : Int) < c
    ·rw [if_pos (.inr h3)];refine dj ?_;generalize ints ch = C at *;generalize ints P = A at *;unfold CB;simp [ql,qk,qj,qi,qh,qg,qf,qe,qd,qc,l7,l6,l5,l4,lZ,lY,lX,lW,lV,bz,h1,hw,w1,j2,jl,g3,g4,g5,h2,h3,idx]
    rw [if_neg (by omega)];by_cases h4 : c < size
    ·rw [if_pos h4];have ih := yP size hs n hn ch hc k (i + 1) (P.set c.toNat (i : Int)) (by omega) (JQ hI h1 _);rw [<- ih];refine aR ?_;obtain ⟨m,rfl⟩ : ∃ m : Nat,c = (m : Int) := ⟨c.toNat,by omega⟩;have mP : m < P.length := by omega
     have m2 : (m : Int) < P.length := by omega
     have st : (ints P).set m (.int .i64 (i : Int)) = ints (P.set m (i : Int)) := by simp [ints,TU]
     have m0 : ¬ (m : Int) < 0 := by omega
     rw [k7];clear ih hI;generalize P.set m (i : Int) = P2 at *;generalize ints ch = C at *;generalize ints P = A at *;generalize ints P2 = A2 at *;unfold CB;simp [ql,qk,qj,qi,qh,qg,qf,qe,qd,qc,l7,l6,l5,l4,lZ,lY,lX,lW,lV,bz,h1,hw,w1,j2,jl,g3,g4,g5,ge,h2,h3,h4,mP,m2,m0,st,idx]
    ·rw [if_neg h4];have ih := yP size hs n hn ch hc k (i + 1) P (by omega) (DY hI h1);rw [<- ih];refine aR ?_;clear ih hI;generalize ints ch = C at *;generalize ints P = A at *;unfold CB;simp [ql,qk,qj,qi,qh,qg,qf,qe,qd,qc,l7,l6,l5,l4,lZ,lY,lX,lW,lV,bz,h1,hw,w1,j2,jl,g3,g4,g5,ge,h2,h3,h4,idx]
theorem yQ (size : Int) (hs : 1 <= size /\ size <= 4096) (n : Nat) (hn : n <= 4096) (ch : List Int) (hc : (ch.length : Int) = max ((n : Int) - size) 0) : ∀ (k i : Nat) (P : List Int),i + k = n -> Vw size i P -> bj aj 0 (.loop CA) ⟨[(0,.int .i64 n),(1,.int .i64 size),(2,.list 1 (ints ch)),(8,.own 1 (ints P)),(9,.int .i64 i)],[]⟩ =
  match QU size ch k i P with
  | some P' => some (.exit 0,⟨[(0,.int .i64 n),(1,.int .i64 size),(2,.list 1 (ints ch)),(8,.own 1 (ints P')),(9,.int .i64 n),(37,.bool false)],[]⟩)
  | none => some (.ret,⟨[(6,.own 1 []),(7,.int .i64 1)],[]⟩)
 | 0,i,P,hi,hI => by
   obtain rfl : i = n := by omega
   refine bm ?_;generalize ints ch = C at *;generalize ints P = A at *;unfold CA;simp [lU,lR,lQ,lO,lN,lM,lL,lK,lJ,lH,jG,jF,jE,jD,jC,jB,jA,jz,jy,jx,jw,jv,ju,jt,js,jr]
 | k + 1,i,P,hi,hI => by
   have bz : (i : Int) < n := by omega
   have hw := dw (i := i) (by omega);have hl := hI.len;rw [QU];by_cases h1 : (i : Int) < size
   ·rw [if_pos h1];have ih := yQ size hs n hn ch hc k (i + 1) (P ++ [(i : Int)]) (by omega) (JR hI h1);rw [<- ih];refine aR ?_;have lx : P.length + 1 <= 4294967296 := by omega
    clear ih hI;generalize ints ch = C at *;unfold CA;simp [lU,lR,lQ,lO,lN,lM,lL,lK,lJ,lH,jG,jF,jE,jD,jC,jB,jA,jz,jy,jx,jw,jv,ju,jt,js,jr,bz,h1,hw,lx,kR,er,dE,cX,ae]
   ·rw [if_neg h1];obtain ⟨j,hj⟩ : ∃ j : Nat,i - size.toNat = j := ⟨_,rfl⟩;have jl : j < ch.length := by omega
    have gj : ch.getD j 0 = ch[j] := by rw [bk,af jl]; rfl
    rw [hj,gj];have w1 : IntKind.i64.wrap ((i : Int) - size) = (j : Int) := by rw [cS (by omega) (by omega)]; omega
    have j2 : (j : Int) < ch.length := by omega
    have g3 : (ints ch)[j]? = some (.int .i64 ch[j]) := by rw [aI,af jl]; rfl
    have g4 : ∀ h,(ints ch)[j]'h = .int .i64 ch[j] := fun h => aT ..;have g5 := ae ch;have ge := ae P;generalize ch[j] = c at *;by_cases h2 : c < 0
    ·rw [if_pos (.inl h2)];refine dj ?_;generalize ints ch = C at *;generalize ints P = A at *;unfold CA;simp [lU,lR,lQ,lO,lN,lM,lL,lK,lJ,lH,jG,jF,jE,jD,jC,jB,jA,jz,jy,jx,jw,jv,ju,jt,js,jr,bz,h1,hw,w1,j2,jl,g3,g4,g5,h2,idx]
    by_cases h3 : (i : Int) < c
    ·rw [if_pos (.inr h3)];refine dj ?_;generalize ints ch = C at *;generalize ints P = A at *;unfold CA;simp [lU,lR,lQ,lO,lN,lM,lL,lK,lJ,lH,jG,jF,jE,jD,jC,jB,jA,jz,jy,jx,jw,jv,ju,jt,js,jr,bz,h1,hw,w1,j2,jl,g3,g4,g5,h2,h3,idx]
    rw [if_neg (by omega)];by_cases h4 : c < size
    ·rw [if_pos h4];have ih := yQ size hs n hn ch hc k (i + 1) (P.set c.toNat (i : Int)) (by omega) (JQ hI h1 _);rw [<- ih];refine aR ?_;obtain ⟨m,rfl⟩ : ∃ m : Nat,c = (m : Int) := ⟨c.toNat,by omega⟩;have mP : m < P.length := by omega
     have m2 : (m : Int) < P.length := by omega
     have st : (ints P).set m (.int .i64 (i : Int)) = ints (P.set m (i : Int)) := by simp [ints,TU]
     have m0 : ¬ (m : Int) < 0 := by omega
     rw [k7];clear ih hI;generalize P.set m (i : Int) = P2 at *;generalize ints ch = C at *;generalize ints P = A at *;generalize ints P2 = A2 at *;unfold CA;simp [lU,lR,lQ,lO,lN,lM,lL,lK,lJ,lH,jG,jF,jE,jD,jC,jB,jA,jz,jy,jx,jw,jv,ju,jt,js,jr,bz,h1,hw,w1,j2,jl,g3,g4,g5,ge,h2,h3,h4,mP,m2,m0,st,idx]
    ·rw [if_neg h4];have ih := yQ size hs n hn ch hc k (i + 1) P (by omega) (DY hI h1);rw [<- ih];refine aR ?_;clear ih hI;generalize ints ch = C at *;generalize ints P = A at *;unfold CA;simp [lU,lR,lQ,lO,lN,lM,lL,lK,lJ,lH,jG,jF,jE,jD,jC,jB,jA,jz,jy,jx,jw,jv,ju,jt,js,jr,bz,h1,hw,w1,j2,jl,g3,g4,g5,ge,h2,h3,h4,idx]
theorem wi {size : Int} {ch : List Int} : ∀ (k i : Nat) (P P' : List Int),Vw size i P -> QU size ch k i P = some P' -> Vw size (i + k) P'
 | 0,i,P,P',h,e => by rw [QU] at e; cases e; exact h
 | k + 1,i,P,P',h,e => by
   rw [QU] at e;rw [show i + (k + 1) = i + 1 + k by omega];by_cases h1 : (i : Int) < size
   ·rw [if_pos h1] at e;exact wi k _ _ _ (JR h h1) e
   ·rw [if_neg h1] at e;split at e
    ·cases e
    ·split at e
     ·exact wi k _ _ _ (JQ h h1 _) e
     ·exact wi k _ _ _ (DY h h1) e
theorem UQ {l : List Int} (hn : l.Nodup) : Up (fi l) /\ ∀ x,x ∈ fi l ↔ x ∈ l := by
 have hp := kW l;refine ⟨?_,fun x => hp.mem_iff⟩;have h1 := rR l;have h2 : (fi l).Nodup := hp.nodup_iff.2 hn
 exact (List.pairwise_and_iff.2 ⟨h1,h2⟩).imp fun {a b} k => by
  have := k.1; have := k.2; omega
theorem UR {size : Int} {n : Nat} {P : List Int} (h : Vw size n P) : fi P = wU n P := by
 obtain ⟨a,b⟩ := UQ h.nd;exact uf a (adS n P) fun x => by rw [b,aaA h.bd]
theorem um (size : Int) (h : 1 <= size) : Vw size 0 [] := ⟨by simp; omega,by simp,by simp⟩
theorem DW (n : Int) (P : List Int) (hP : P.length <= 4096) (hd : P.Nodup) (i : Nat) (o : List Int) (ho : o.length <= 4096) : ∀ (k j : Nat) (b : List Int),j + k = P.length -> b = (if (i : Int) ∈ P.take j then o ++ [(i : Int)] else o) -> bj aj 0 (.loop MV) ⟨[(0,.int .i64 n),(8,.own 1 (ints P)),(11,.own 1 (ints b)),(12,.int .i64 i),(13,.int .i64 j)],[]⟩ = some (.exit 4,⟨[(0,.int .i64 n),(8,.own 1 (ints P)),(11,.own 1 (ints (if (i : Int) ∈ P then o ++ [(i : Int)] else o))),(12,.int .i64 i),(13,.int .i64 P.length),(75,.bool false)],[]⟩)
 | 0,j,b,hj,hb => by
   obtain rfl : j = P.length := by omega
   rw [cX] at hb;subst hb;refine bm ?_;have gP := ae P;generalize (if (i : Int) ∈ P then o ++ [(i : Int)] else o) = b;generalize ints P = A at *;generalize ints b = B at *;unfold MV;simp [lU,lR,lQ,lO,lN,lM,lL,lK,lJ,lH,jG,jF,jE,jD,jC,jB,jA,jz,jy,jx,jw,jv,ju,jt,js,jr,gP]
 | k + 1,j,b,hj,hb => by
   have bz : j < P.length := by omega
   have h1 : (j : Int) < P.length := by omega
   have hw := dw (i := j) (by omega);have gP := ae P;have g3 : (ints P)[j]? = some (.int .i64 P[j]) := by rw [aI,af bz]; rfl
   have g4 : ∀ h,(ints P)[j]'h = .int .i64 P[j] := fun h => aT ..;have tk : P.take (j + 1) = P.take j ++ [P[j]] := List.take_succ_eq_append_getElem bz;by_cases e : P[j] = (i : Int)
   ·have ni : (i : Int) ∉ P.take j := by
     intro hm;have h2 : (P.take (j + 1)).Nodup := hd.sublist (List.take_sublist _ _);rw [tk,List.nodup_append] at h2;exact h2.2.2 _ hm _ (by simp) e.symm
    rw [if_neg ni] at hb;rw [hb];have ih := DW n P hP hd i o ho k (j + 1) (o ++ [(i : Int)]) (by omega) (by rw [tk,if_pos (by simp [e])]);refine (aR ?_).trans ih;rw [e] at g3 g4;have lx : o.length + 1 <= 4294967296 := by omega
    clear ih tk;generalize ints P = A at *;unfold MV;simp [lU,lR,lQ,lO,lN,lM,lL,lK,lJ,lH,jG,jF,jE,jD,jC,jB,jA,jz,jy,jx,jw,jv,ju,jt,js,jr,h1,bz,hw,gP,g3,g4,lx,kR,er,dE,cX,ae,idx]
   ·have ih := DW n P hP hd i o ho k (j + 1) b (by omega) (by
     have e' : ¬ (i : Int) = P[j] := fun q => e q.symm;rw [hb,tk];simp only [aD,List.mem_singleton,e',or_false])
    refine (aR ?_).trans ih;clear ih tk hb;generalize P[j] = x at *;generalize ints P = A at *;generalize ints b = B at *;unfold MV;simp [lU,lR,lQ,lO,lN,lM,lL,lK,lJ,lH,jG,jF,jE,jD,jC,jB,jA,jz,jy,jx,jw,jv,ju,jt,js,jr,h1,bz,hw,gP,g3,g4,e,idx]
theorem L5 (n : Nat) (hn : n <= 4096) (P : List Int) (hP : P.length <= 4096) (hd : P.Nodup) : ∀ (k i : Nat),i + k = n -> bj aj 0 (.loop Tc) ⟨[(0,.int .i64 n),(8,.own 1 (ints P)),(11,.own 1 (ints (wU i P))),(12,.int .i64 i)],[]⟩ = some (.exit 2,⟨[(0,.int .i64 n),(8,.own 1 (ints P)),(11,.own 1 (ints (wU n P))),(12,.int .i64 n),(69,.bool false)],[]⟩)
 | 0,i,hi => by
   obtain rfl : i = n := by omega
   refine bm ?_;generalize ints P = A at *;generalize ints (wU i P) = B at *;unfold Tc;simp [lU,lR,lQ,lO,lN,lM,lL,lK,lJ,lH,jG,jF,jE,jD,jC,jB,jA,jz,jy,jx,jw,jv,ju,jt,js,jr]
 | k + 1,i,hi => by
   have h1 : (i : Int) < n := by omega
   have hw := dw (i := i) (by omega)
   have hr : (wU i P).length <= 4096 := by
    unfold wU;have := List.length_filter_le (fun x => decide (x ∈ P)) ((wW i).map fun i => ((i : Nat) : Int));rw [List.length_map,List.length_range] at this;omega
   have lp := DW n P hP hd i (wU i P) hr P.length 0 (wU i P) (by omega) (by simp);have ih := L5 n hn P hP hd k (i + 1) (by omega)
   have es : (if (i : Int) ∈ P then wU i P ++ [(i : Int)] else wU i P) = wU (i + 1) P := by
    rw [WE];split <;> simp
   rw [es,iB] at lp;refine (aR ?_).trans ih;clear ih;generalize wU (i + 1) P = b2 at *;generalize wU i P = b1 at *;generalize ints P = A at *;generalize ints b1 = B1 at *;generalize ints b2 = B2 at *;unfold Tc;simp [lU,lR,lQ,lO,lN,lM,lL,lK,lJ,lH,jG,jF,jE,jD,jC,jB,jA,jz,jy,jx,jw,jv,ju,jt,js,jr,h1,hw,lp]
def Wx (n size : Int) (ch : List Int) : AV :=
 if n < 0 \/ 4096 < n \/ size < 1 \/ 4096 < size then .dp [.list 1 [],.int .i64 1]
 else if (ch.length : Int) ≠ max (n - size) 0 then .dp [.list 1 [],.int .i64 4]
 else match QU size ch n.toNat 0 [] with
  | some P => .dp [.list 1 (ints (wU n.toNat P)),.int .i64 0]
  | none => .dp [.list 1 [],.int .i64 1]
theorem XP (n size : Int) (ch : List Int) (hl : ch.length <= 9223372036854775807) : bf aj nQy [.int .i64 n,.int .i64 size,.list 1 (ints ch)] [] = some (Wx n size ch,[]) := by
 rw [aB oQy sQy (ab rfl)];unfold Wx;have g5 := ae ch;by_cases h1 : n < 0
 ·rw [if_pos (.inl h1)];generalize ints ch = C at *;unfold qQy cQy;simp [ql,qk,qj,qi,qh,qg,qf,qe,qd,qc,l7,l6,l5,l4,lZ,lY,lX,lW,lV,h1,aY,aV,df,pl]
 by_cases h2 : 4096 < n
 ·rw [if_pos (.inr (.inl h2))];generalize ints ch = C at *;unfold qQy cQy;simp [ql,qk,qj,qi,qh,qg,qf,qe,qd,qc,l7,l6,l5,l4,lZ,lY,lX,lW,lV,h1,h2,aY,aV,df,pl]
 by_cases h3 : size < 1
 ·rw [if_pos (.inr (.inr (.inl h3)))];generalize ints ch = C at *;unfold qQy cQy;simp [ql,qk,qj,qi,qh,qg,qf,qe,qd,qc,l7,l6,l5,l4,lZ,lY,lX,lW,lV,h1,h2,h3,aY,aV,df,pl]
 by_cases h4 : 4096 < size
 ·rw [if_pos (.inr (.inr (.inr h4)))];generalize ints ch = C at *;unfold qQy cQy;simp [ql,qk,qj,qi,qh,qg,qf,qe,qd,qc,l7,l6,l5,l4,lZ,lY,lX,lW,lV,h1,h2,h3,h4,aY,aV,df,pl]
 rw [if_neg (by omega)];obtain ⟨n,rfl⟩ : ∃ m : Nat,n = (m : Int) := ⟨n.toNat,by omega⟩;rw [k7];have w : IntKind.i64.wrap ((n : Int) - size) = (n : Int) - size := cS (by omega) (by omega);obtain ⟨d,hd⟩ : ∃ d : Int,max ((n : Int) - size) 0 = d := ⟨_,rfl⟩;have mx : (if (n : Int) - size < 0 then 0 else (n : Int) - size) = d := by rw [<- hd]; split <;> omega
 have mx2 : (if (n : Int) < size then 0 else (n : Int) - size) = d := by rw [<- hd]; split <;> omega
 by_cases h5 : (ch.length : Int) = d
 case neg =>
  rw [hd,if_pos h5];generalize ints ch = C at *;unfold qQy cQy;simp [ql,qk,qj,qi,qh,qg,qf,qe,qd,qc,l7,l6,l5,l4,lZ,lY,lX,lW,lV,h1,h2,h3,h4,w,g5,h5,mx,mx2,aY,aV,df,pl]
 rw [hd,if_neg (by simpa using h5)];have lp := yP size (by omega) n (by omega) ch (h5.trans hd.symm) n 0 [] (by omega) (um size (by omega));have n1 := h1;have n2 := h2;have n3 := h3;have n4 := h4;rw [iB,ec] at lp;cases hr : QU size ch n 0 [] with
 | none =>
   rw [hr] at lp;simp only at lp ⊢;generalize ints ch = C at *;unfold qQy cQy;simp [ql,qk,qj,qi,qh,qg,qf,qe,qd,qc,l7,l6,l5,l4,lZ,lY,lX,lW,lV,n1,n2,n3,n4,w,h5,g5,mx,mx2,lp,ec,aY,aV,df,pl]
 | some P =>
   rw [hr] at lp;simp only at lp ⊢;have hI := wi n 0 [] P (um size (by omega)) hr;rw [dL] at hI;have so := LK P (by have := hI.len; omega);have gP := ae P;have es := UR hI;have lI : (fi P).length = P.length := pc P;rw [es] at so;have tk1 : (ints P).take P.length = ints P := aL (by omega);have dr1 : (ints P).drop P.length = [] := List.drop_of_length_le (by omega);have gR := ae (wU n P);rw [<- es,lI,es] at gR;have V4 : (ints (wU n P)).take P.length = ints (wU n P) := aL (by omega);rw [es] at lI;generalize P.length = q at *;clear hI es;generalize wU n P = b at *;generalize ints ch = C at *;generalize ints P = A at *;generalize ints b = B at *;unfold qQy cQy;simp [ql,qk,qj,qi,qh,qg,qf,qe,qd,qc,l7,l6,l5,l4,lZ,lY,lX,lW,lV,n1,n2,n3,n4,w,h5,g5,mx,mx2,lp,so,gP,gR,tk1,V4,dr1,iQS,lQS,sQS,ec,aY,aV,df,pl]
theorem Wy (n size : Int) (ch : List Int) (hl : ch.length <= 9223372036854775807) : bf aj nQz [.int .i64 n,.int .i64 size,.list 1 (ints ch)] [] = some (Wx n size ch,[]) := by
 rw [aB oQz sQz (ab rfl)];unfold Wx;have g5 := ae ch;by_cases h1 : n < 0
 ·rw [if_pos (.inl h1)];generalize ints ch = C at *;unfold qQz cQz;simp [lU,lR,lQ,lO,lN,lM,lL,lK,lJ,lH,jG,jF,jE,jD,jC,jB,jA,jz,jy,jx,jw,jv,ju,jt,js,jr,h1,aY,aV,df,pl]
 by_cases h2 : 4096 < n
 ·rw [if_pos (.inr (.inl h2))];generalize ints ch = C at *;unfold qQz cQz;simp [lU,lR,lQ,lO,lN,lM,lL,lK,lJ,lH,jG,jF,jE,jD,jC,jB,jA,jz,jy,jx,jw,jv,ju,jt,js,jr,h1,h2,aY,aV,df,pl]
 by_cases h3 : size < 1
 ·rw [if_pos (.inr (.inr (.inl h3)))];generalize ints ch = C at *;unfold qQz cQz;simp [lU,lR,lQ,lO,lN,lM,lL,lK,lJ,lH,jG,jF,jE,jD,jC,jB,jA,jz,jy,jx,jw,jv,ju,jt,js,jr,h1,h2,h3,aY,aV,df,pl]
 by_cases h4 : 4096 < size
 ·rw [if_pos (.inr (.inr (.inr h4)))];generalize ints ch = C at *;unfold qQz cQz;simp [lU,lR,lQ,lO,lN,lM,lL,lK,lJ,lH,jG,jF,jE,jD,jC,jB,jA,jz,jy,jx,jw,jv,ju,jt,js,jr,h1,h2,h3,h4,aY,aV,df,pl]
 rw [if_neg (by omega)];obtain ⟨n,rfl⟩ : ∃ m : Nat,n = (m : Int) := ⟨n.toNat,by omega⟩;rw [k7];have w : IntKind.i64.wrap ((n : Int) - size) = (n : Int) - size := cS (by omega) (by omega);obtain ⟨d,hd⟩ : ∃ d : Int,max ((n : Int) - size) 0 = d := ⟨_,rfl⟩;have mx : (if 0 < (n : Int) - size then (n : Int) - size else 0) = d := by rw [<- hd]; split <;> omega
 have mx2 : (if size < (n : Int) then (n : Int) - size else 0) = d := by rw [<- hd]; split <;> omega
 by_cases h5 : (ch.length : Int) = d
 case neg =>
  rw [hd,if_pos h5];generalize ints ch = C at *;unfold qQz cQz;simp [lU,lR,lQ,lO,lN,lM,lL,lK,lJ,lH,jG,jF,jE,jD,jC,jB,jA,jz,jy,jx,jw,jv,ju,jt,js,jr,h1,h2,h3,h4,w,g5,h5,mx,mx2,aY,aV,df,pl]
 rw [hd,if_neg (by simpa using h5)];have lp := yQ size (by omega) n (by omega) ch (h5.trans hd.symm) n 0 [] (by omega) (um size (by omega));have n1 := h1;have n2 := h2;have n3 := h3;have n4 := h4;rw [iB,ec] at lp;cases hr : QU size ch n 0 [] with
 | none =>
   rw [hr] at lp;simp only at lp ⊢;generalize ints ch = C at *;unfold qQz cQz;simp [lU,lR,lQ,lO,lN,lM,lL,lK,lJ,lH,jG,jF,jE,jD,jC,jB,jA,jz,jy,jx,jw,jv,ju,jt,js,jr,n1,n2,n3,n4,w,h5,g5,mx,mx2,lp,ec,aY,aV,df,pl]
 | some P =>
   rw [hr] at lp;simp only at lp ⊢;have hI := wi n 0 [] P (um size (by omega)) hr;rw [dL] at hI;have ro := L5 n (by omega) P (by have := hI.len; omega) hI.nd n 0 (by omega);rw [iB,show wU 0 P = [] from rfl,ec] at ro;have gR := ae (wU n P);have V4 : (ints (wU n P)).take (wU n P).length = ints (wU n P) := aL (by omega);clear hI;generalize wU n P = b at *;generalize ints ch = C at *;generalize ints P = A at *;generalize ints b = B at *;unfold qQz cQz;simp [lU,lR,lQ,lO,lN,lM,lL,lK,lJ,lH,jG,jF,jE,jD,jC,jB,jA,jz,jy,jx,jw,jv,ju,jt,js,jr,n1,n2,n3,n4,w,h5,g5,mx,mx2,lp,ro,gR,V4,ec,aY,aV,df,pl]
end Go.BmP
