/- What masks.Rows and masks.Count return; degree.Degrees. -/
import Derived.Test.YtoobjomjclombaaDoorUseM
import Derived.Test.YtoobjomjclombaaDoorL01
import Derived.Test.YtoobjomjclombaaDoorMxG
import Derived.Test.YtoobjomjclombaaDoorPcP
set_option linter.unusedSimpArgs false
set_option linter.unusedVariables false
set_option maxRecDepth 100000
set_option maxHeartbeats 4000000
namespace Go.BmP
open Go.Am Go.Bm
theorem adj_spec {N : Nat} {Es : List Ed} (h : GOK (N : Int) Es) : (adjE N Es).length = N /\ Small (adjE N Es) /\ ∀ a b : Nat,((adjE N Es).getD a 0).testBit b = (decide (((a : Int),(b : Int)) ∈ Es) || decide (((b : Int),(a : Int)) ∈ Es)) := by
 have hn := h.1
 obtain ⟨i1,i2,i3⟩ := adjOf_spec N (by omega) Es (List.replicate N 0) (by simp) (fun x hx => by have := List.eq_of_mem_replicate hx; omega) h.2.2
 refine ⟨i1,i2,fun a b => ?_⟩
 unfold adjE
 rw [i3]
 have : ((List.replicate N 0).getD a 0) = 0 := by rw [List.getD_eq_getElem?_getD,List.getElem?_replicate]; split <;> rfl
 rw [this,Nat.zero_testBit,Bool.false_or]
def pc9 (m : Nat) : Nat := ((List.range 9).filter fun j => m.testBit j).length
def pcA (x : Int) : Int := IntKind.u64.wrap (bits .and .u64 (x.fdiv 2) 6148914691236517205 + bits .and .u64 x 6148914691236517205)
def pcB (x : Int) : Int := IntKind.u64.wrap (bits .and .u64 (x.fdiv 4) 3689348814741910323 + bits .and .u64 x 3689348814741910323)
def pcC (x : Int) : Int := bits .and .u64 (IntKind.u64.wrap (x.fdiv 16 + x)) 1085102592571150095
def pcD (n : Int) (x : Int) : Int := IntKind.u64.wrap (x + x.fdiv n)
def pcE (x : Int) : Int := bits .and .i64 (IntKind.i64.wrap (pcD 4294967296 (pcD 65536 (pcD 256 (pcC (pcB (pcA x))))))) 127
theorem ones_run (x : Int) : callL cfgS nQI [.int .u64 x] [] = some (.int .i64 (pcE x),[]) := by
 obtain ⟨a,ea⟩ : ∃ a,IntKind.u64.wrap (bits .and .u64 (x.fdiv 2) 6148914691236517205 + bits .and .u64 x 6148914691236517205) = a := ⟨_,rfl⟩
 obtain ⟨b,eb⟩ : ∃ b,IntKind.u64.wrap (bits .and .u64 (a.fdiv 4) 3689348814741910323 + bits .and .u64 a 3689348814741910323) = b := ⟨_,rfl⟩
 obtain ⟨c,ec⟩ : ∃ c,bits .and .u64 (IntKind.u64.wrap (b.fdiv 16 + b)) 1085102592571150095 = c := ⟨_,rfl⟩
 obtain ⟨d,ed⟩ : ∃ d,IntKind.u64.wrap (c + c.fdiv 256) = d := ⟨_,rfl⟩
 obtain ⟨e,ee⟩ : ∃ e,IntKind.u64.wrap (d + d.fdiv 65536) = e := ⟨_,rfl⟩
 obtain ⟨f,ef⟩ : ∃ f,IntKind.u64.wrap (e + e.fdiv 4294967296) = f := ⟨_,rfl⟩
 have hp : pcE x = bits .and .i64 (IntKind.i64.wrap f) 127 := by unfold pcE pcD pcC pcB pcA; rw [ea,eb,ec,ed,ee,ef]
 rw [hp]
 rw [callL_end oQI sQI (Nat.le_of_ble_eq_true rfl)]
 unfold qQI cQI
 simp [rQIX0,rQIX1,rQIX2,rQIX3,rQIX4,rQIX5,rQIX6,rQIX7,ea,eb,ec,ed,ee,ef,IntKind.bits,blk,endL,finB]
/- What maxclique.bound returns: no less than the greatest clique. -/
theorem ones64_run (m : Nat) (h : m < 18446744073709551616) : callL cfgS nQI [.int .u64 m] [] = some (.int .i64 (pcn m : Nat),[]) := by
 rw [ones_run]
 have := pxE_all m h
 rw [show pcE (m : Int) = pxE (m : Int) from rfl,this]
theorem andNot_bit {m b : Nat} (hm : m < 18446744073709551616) (hb : b < 18446744073709551616) (j : Nat) : (m &&& (18446744073709551615 - b)).testBit j = (m.testBit j && !b.testBit j) := by
 rw [Nat.testBit_and]
 have e : 18446744073709551615 - b = 2 ^ 64 - (b + 1) := by omega
 rw [e,Nat.testBit_two_pow_sub_succ (by omega)]
 by_cases hj : j < 64
 ·simp [hj]
 ·have : m.testBit j = false := Nat.testBit_lt_two_pow (Nat.lt_of_lt_of_le hm (by
   rw [show (18446744073709551616 : Nat) = 2 ^ 64 from rfl]
   exact Nat.pow_le_pow_right (by decide) (by omega)))
  simp [this]
theorem row_n {A : List Nat} {v : Nat} (hv : v < A.length) : idx (.int .i64 (v : Int)) A.length = some v /\ (us A)[v]? = some (.int .u64 (A.getD v 0 : Nat)) /\ ∀ h : v < (us A).length,(us A)[v] = .int .u64 (A.getD v 0 : Nat) := by
 have e : (us A)[v]? = some (.int .u64 (A.getD v 0 : Nat)) := by
  rw [us_get,List.getD_eq_getElem?_getD,List.getElem?_eq_getElem hv]; rfl
 refine ⟨by have := idx_lt (k := .i64) (i := (v : Int)) (n := A.length) (by omega) (by omega); simpa using this,e,fun h => ?_⟩
 rw [List.getElem?_eq_getElem h] at e
 exact Option.some.inj e
theorem pow_n {v : Nat} (h : v < 64) : 2 ^ v < 18446744073709551616 := by
 have := Nat.pow_lt_pow_right (a := 2) (by decide) h
 rw [show (18446744073709551616 : Nat) = 2 ^ 64 from rfl]; exact this
theorem shl_n {v : Nat} (h : v < 64) : IntKind.u64.wrap (2 ^ (min v 64)) = ((2 ^ v : Nat) : Int) /\ IntKind.u64.wrap (1 * 2 ^ (min v 64)) = ((2 ^ v : Nat) : Int) := by
 have := shlU (v := (v : Int)) (by omega) (by omega)
 simp only [Int.toNat_natCast] at this
 exact ⟨by rw [<- this,Int.one_mul],this⟩
theorem bnd_in {A : List Nat} (hS : Small A) (hA : Sym A) (m n : Nat) : ∀ (free among : Nat),among < 18446744073709551616 -> free < 18446744073709551616 -> (∀ j,free.testBit j = true -> j < A.length) -> ClsI A m among free ->
  ∃ among',among' <= among /\ (free ≠ 0 -> among' < among) /\ (∀ j,among'.testBit j = true -> among.testBit j = true) /\ ClsI A m among' 0 /\
   codeL cfgS 0 (.loop lQJX0) ⟨[(0,.list 1 (us A)),(1,.int .u64 among),(5,.int .i64 n),(6,.int .u64 free)],[]⟩ = some (.exit 2,⟨[(0,.list 1 (us A)),(1,.int .u64 among'),(5,.int .i64 n),(6,.int .u64 (0 : Nat)),(14,.bool false)],[]⟩) := by
 intro free
 induction free using Nat.strongRecOn with
 | ind free ih =>
   intro among ha hf hr hc
   by_cases h0 : free = 0
   ·subst h0
    refine ⟨among,Nat.le_refl _,fun h => absurd rfl h,fun _ h => h,hc,?_⟩
    exact loop_exit (by unfold lQJX0; simp [rQJX0,rQJX1,rQJX2,rQJX3,rQJX4,rQJX5,rQJX6,rQJX7,rQJX8,rQJX9,nat0,blk,eds_length,eds_get,edsAt,edAV,allLeaf_eds,cleanL_eds,cleanL_ints,ints_length,ints_get,intsAt,endL,finB])
   ·have n0 : ¬ ((free : Int) = 0) := by omega
    obtain ⟨_,_,ht⟩ := tz_spec h0 hf
    obtain ⟨tb,_⟩ := tz_bit h0 hf
    have htz := tz_run free h0 hf
    obtain ⟨r1,r2,r3⟩ := row_n (hr _ tb)
    obtain ⟨s1,s2⟩ := shl_n ht
    have hp := pow_n ht
    have hg := getD_lt hS (tz free)
    have w1 := u64_andNot_nat among (2 ^ tz free) ha hp
    have w2 := u64_or_nat (2 ^ tz free) (A.getD (tz free) 0) hp hg
    have ho : 2 ^ tz free ||| A.getD (tz free) 0 < 18446744073709551616 := Nat.or_lt_two_pow (n := 64) hp hg
    have w3 := u64_andNot_nat free (2 ^ tz free ||| A.getD (tz free) 0) hf ho
    have hfr : ∀ x,(free &&& (18446744073709551615 - (2 ^ tz free ||| A.getD (tz free) 0))).testBit x = (free.testBit x && (decide (x ≠ tz free) && !(A.getD (tz free) 0).testBit x)) := fun x => by
     rw [andNot_bit hf ho,Nat.testBit_or,Nat.testBit_two_pow,Bool.not_or]
     by_cases k : tz free = x
     ·subst k; simp
     ·have k' : ¬ x = tz free := fun h => k h.symm
      simp [k,k']
    have hc' := cls_step hA ha hf h0 hc hfr
    have hwo : wo among (tz free) < among := wo_lt ha ht (hc.1 _ tb)
    have hlt : free &&& (18446744073709551615 - (2 ^ tz free ||| A.getD (tz free) 0)) < free := by
     rcases Nat.lt_or_eq_of_le (Nat.and_le_left : free &&& (18446744073709551615 - (2 ^ tz free ||| A.getD (tz free) 0)) <= free) with h | h
     ·exact h
     ·have := hfr (tz free)
      rw [h,tb] at this
      simp at this
    have hr' : ∀ j,(free &&& (18446744073709551615 - (2 ^ tz free ||| A.getD (tz free) 0))).testBit j = true -> j < A.length := fun j hj => by
     rw [hfr] at hj
     simp only [Bool.and_eq_true] at hj
     exact hr j hj.1
    obtain ⟨am,a1,a2,a3,a4,a5⟩ := ih _ hlt (wo among (tz free)) (by omega) (by omega) hr' hc'
    refine ⟨am,by omega,fun _ => by omega,fun j hj => ?_,a4,?_⟩
    ·have := a3 j hj
     rw [wo_bit ha ht] at this
     simp only [Bool.and_eq_true] at this
     exact this.1
    ·refine (loop_next (s' := ⟨[(0,.list 1 (us A)),(1,.int .u64 ((wo among (tz free) : Nat) : Int)),(5,.int .i64 n),(6,.int .u64 ((free &&& (18446744073709551615 - (2 ^ tz free ||| A.getD (tz free) 0)) : Nat) : Int))],[]⟩) ?_).trans a5
     have lA := us_length A
     clear hfr hc' hwo hlt hr' a1 a2 a3 a4 a5 ih hc hr tb hg ho hp ha hf
     unfold wo
     generalize (among &&& (18446744073709551615 - 2 ^ tz free) : Nat) = W at *
     generalize (free &&& (18446744073709551615 - (2 ^ tz free ||| A.getD (tz free) 0)) : Nat) = F at *
     generalize (2 ^ tz free ||| A.getD (tz free) 0 : Nat) = Q at *
     generalize A.getD (tz free) 0 = r at *
     generalize (2 ^ tz free : Nat) = p at *
     generalize tz free = t at *
     have t0 : (0 : Int) <= t := by omega
     have t1 : (t : Int) < 64 := by omega
     have t2 : ¬ ((t : Int) < 0) := by omega
     generalize us A = AA at *
     unfold lQJX0
     simp [rQJX0,rQJX1,rQJX2,rQJX3,rQJX4,rQJX5,rQJX6,rQJX7,rQJX8,rQJX9,n0,h0,htz,r1,r2,r3,s1,s2,w1,w2,w3,t0,t1,t2,lA,IntKind.bits,sQA,iQA,vQA,Int.toNat_natCast,blk,eds_length,eds_get,edsAt,edAV,allLeaf_eds,cleanL_eds,cleanL_ints,ints_length,ints_get,intsAt,endL,finB]
theorem filt_le {p q : Nat -> Bool} : ∀ {L : List Nat},(∀ x,p x = true -> q x = true) -> (L.filter p).length <= (L.filter q).length
 | [],_ => Nat.le_refl _
 | x :: r,h => by
   have ih := filt_le (L := r) h
   rw [List.filter_cons,List.filter_cons]
   by_cases k : p x = true
   ·rw [if_pos k,if_pos (h x k)]; simp; exact ih
   ·rw [if_neg k]
    split
    ·simp; omega
    ·exact ih
theorem filt_lt {p q : Nat -> Bool} : ∀ {L : List Nat},(∀ x,p x = true -> q x = true) -> ∀ {y : Nat},y ∈ L -> q y = true -> p y = false -> (L.filter p).length < (L.filter q).length
 | [],_,y,hy,_,_ => by simp at hy
 | x :: r,h,y,hy,h1,h2 => by
   rw [List.filter_cons,List.filter_cons]
   by_cases k : p x = true
   ·rw [if_pos k,if_pos (h x k)]
    have hy' : y ∈ r := (List.mem_cons.1 hy).resolve_left fun e => by rw [e,k] at h2; cases h2
    have ih := filt_lt h hy' h1 h2
    simp; exact ih
   ·rw [if_neg k]
    rcases List.mem_cons.1 hy with rfl | hy'
    ·rw [if_pos h1]
     have := filt_le (L := r) h
     simp; omega
    ·have ih := filt_lt h hy' h1 h2
     split
     ·simp; omega
     ·exact ih
theorem tb_lt {m : Nat} (hm : m < 18446744073709551616) {j : Nat} (h : m.testBit j = true) : j < 64 := by
 apply Classical.byContradiction
 intro k
 have : m.testBit j = false := Nat.testBit_lt_two_pow (Nat.lt_of_lt_of_le hm (by
  rw [show (18446744073709551616 : Nat) = 2 ^ 64 from rfl]
  exact Nat.pow_le_pow_right (by decide) (by omega)))
 rw [h] at this; cases this
theorem pcn_lt {a m : Nat} (hm : m < 18446744073709551616) (h : ∀ j,a.testBit j = true -> m.testBit j = true) {j : Nat} (h1 : m.testBit j = true) (h2 : a.testBit j = false) : pcn a < pcn m :=
 filt_lt h (List.mem_range.2 (tb_lt hm h1)) h1 h2
theorem pcn_lt' {a m : Nat} (hm : m < 18446744073709551616) (h : ∀ j,a.testBit j = true -> m.testBit j = true) (hl : a < m) : pcn a < pcn m := by
 apply Classical.byContradiction
 intro k
 have : a = m := Nat.eq_of_testBit_eq fun j => by
  cases e : m.testBit j with
  | false =>
    cases e2 : a.testBit j with
    | false => rfl
    | true => rw [h j e2] at e; cases e
  | true =>
    cases e2 : a.testBit j with
    | true => rfl
    | false => exact absurd (pcn_lt hm h e e2) k
 omega
theorem pcn_le (m : Nat) : pcn m <= 64 := by
 unfold pcn
 have := List.length_filter_le (fun j => m.testBit j) (List.range 64)
 rw [List.length_range] at this
 exact this
theorem bnd_out {A : List Nat} (hS : Small A) (hA : Sym A) (m0 : Nat) : ∀ (m n : Nat),m < 18446744073709551616 -> n + pcn m <= 64 -> (∀ j,m.testBit j = true -> j < A.length) -> BdI A m0 n m ->
  ∃ k,BdI A m0 k 0 /\ k <= 64 /\ codeL cfgS 0 (.loop lQJX1) ⟨[(0,.list 1 (us A)),(1,.int .u64 m),(5,.int .i64 n)],[]⟩ = some (.exit 0,⟨[(0,.list 1 (us A)),(1,.int .u64 (0 : Nat)),(5,.int .i64 k),(9,.bool false)],[]⟩) := by
 intro m
 induction m using Nat.strongRecOn with
 | ind m ih =>
   intro n hm hn hr hb
   by_cases h0 : m = 0
   ·subst h0
    refine ⟨n,hb,by omega,?_⟩
    exact loop_exit (by unfold lQJX1; simp [rQJX0,rQJX1,rQJX2,rQJX3,rQJX4,rQJX5,rQJX6,rQJX7,rQJX8,rQJX9,nat0,blk,eds_length,eds_get,edsAt,edAV,allLeaf_eds,cleanL_eds,cleanL_ints,ints_length,ints_get,intsAt,endL,finB])
   ·have n0 : ¬ ((m : Int) = 0) := by omega
    obtain ⟨am,a1,a2,a3,a4,a5⟩ := bnd_in hS hA m n m m hm hm hr (cls_start A m)
    have a2 := a2 h0
    have hpc := pcn_lt' hm a3 a2
    obtain ⟨k,b1,b2,b3⟩ := ih am a2 (n + 1) (by omega) (by omega) (fun j hj => hr j (a3 j hj)) (bd_next hb a4)
    refine ⟨k,b1,b2,(loop_next (s' := ⟨[(0,.list 1 (us A)),(1,.int .u64 am),(5,.int .i64 ((n + 1 : Nat) : Int))],[]⟩) ?_).trans b3⟩
    have hw := wrapS (i := n) (by omega)
    clear ih hr hb a3 a4 b1 b2 b3 hS hA
    generalize us A = AA at *
    unfold lQJX1
    simp [rQJX0,rQJX1,rQJX2,rQJX3,rQJX4,rQJX5,rQJX6,rQJX7,rQJX8,rQJX9,n0,h0,a5,hw,blk,eds_length,eds_get,edsAt,edAV,allLeaf_eds,cleanL_eds,cleanL_ints,ints_length,ints_get,intsAt,endL,finB]
theorem bound_run {A : List Nat} (hS : Small A) (hA : Sym A) (m : Nat) (hm : m < 18446744073709551616) (hr : ∀ j,m.testBit j = true -> j < A.length) :
  ∃ k : Nat,k <= 64 /\ (∀ S,Kq A S -> Inb m S -> S.length <= k) /\ callL cfgS nQJ [.list 1 (us A),.int .u64 m] [] = some (.int .i64 k,[]) := by
 obtain ⟨k,h1,h2,h3⟩ := bnd_out hS hA m m 0 hm (by have := pcn_le m; omega) hr (bd_start A m)
 refine ⟨k,h2,fun S a b => bd_end h1 a b,?_⟩
 rw [callL_end oQJ sQJ (Nat.le_of_ble_eq_true rfl)]
 unfold qQJ cQJ
 rw [nat0] at h3
 generalize us A = AA at *
 simp [rQJX0,rQJX1,rQJX2,rQJX3,rQJX4,rQJX5,rQJX6,rQJX7,rQJX8,rQJX9,h3,endL,finB]
/- What maxclique.longest returns: the greater one of what it is given and the size of a largest clique. -/
set_option maxHeartbeats 8000000
def lgF : AV := .func (.func nQH) [] [.ptr 1 0,.ptr 0 0,.ptr 2 0]
def lH (A : List Nat) (b : Int) : Heap := [some [.list 1 (us A)],some [.int .i64 b],some [lgF]]
def lE (m : Nat) (s : Int) (x : Env) : Env := (0,.int .u64 (m : Nat)) :: (1,.int .i64 s) :: (2,.ptr 1 0) :: (3,.ptr 0 0) :: (4,.ptr 2 0) :: x
theorem lg_max (A : List Nat) (m : Nat) (s b : Int) : codeL cfgS 3 (.reg rQHX0 false [] [0,1,2,3,4]) ⟨lE m s [],lH A b⟩ = some (.normal,⟨lE m s [],lH A (mxI b s)⟩) := by
 unfold lE lH lgF mxI
 generalize us A = AA
 generalize (m : Int) = X
 by_cases k : b < s
 ·simp [rQHX0,rQHX1,rQHX2,rQHX3,rQHX4,rQHX5,k,blk,eds_length,eds_get,edsAt,edAV,allLeaf_eds,cleanL_eds,cleanL_ints,ints_length,ints_get,intsAt,endL,finB]
 ·simp [rQHX0,rQHX1,rQHX2,rQHX3,rQHX4,rQHX5,k,blk,eds_length,eds_get,edsAt,edAV,allLeaf_eds,cleanL_eds,cleanL_ints,ints_length,ints_get,intsAt,endL,finB]
theorem lg_z (A : List Nat) (s b : Int) : codeL cfgS 3 (.reg rQHX1 false [] [0,1,2,3,4,12]) ⟨lE 0 s [],lH A b⟩ = some (.normal,⟨lE 0 s [(12,.bool false)],lH A b⟩) := by
 unfold lE lH lgF
 generalize us A = AA
 simp [rQHX0,rQHX1,rQHX2,rQHX3,rQHX4,rQHX5,nat0,blk,eds_length,eds_get,edsAt,edAV,allLeaf_eds,cleanL_eds,cleanL_ints,ints_length,ints_get,intsAt,endL,finB]
theorem lg_nz (A : List Nat) {m : Nat} (s b : Int) (h : m ≠ 0) : codeL cfgS 3 (.reg rQHX1 false [] [0,1,2,3,4,12]) ⟨lE m s [],lH A b⟩ = some (.normal,⟨lE m s [(12,.bool true)],lH A b⟩) := by
 have n0 : ¬ ((m : Int) = 0) := by omega
 unfold lE lH lgF
 generalize us A = AA
 generalize (m : Int) = X at *
 simp [rQHX0,rQHX1,rQHX2,rQHX3,rQHX4,rQHX5,n0,blk,eds_length,eds_get,edsAt,edAV,allLeaf_eds,cleanL_eds,cleanL_ints,ints_length,ints_get,intsAt,endL,finB]
theorem lg_cnt (A : List Nat) {m : Nat} (hm : m < 18446744073709551616) (s b : Int) (hs : 0 <= s /\ s <= 1000) (h : s + pcn m <= b) : codeL cfgS 3 (.reg rQHX2 true [(5,5),(6,6),(13,13),(14,14),(0,2),(0,4),(1,4),(2,4),(3,4),(7,8),(8,9),(7,10),(7,12),(8,12),(9,12),(10,12),(11,12)] [0,1,2,3,4,27]) ⟨lE m s [(12,.bool true)],lH A b⟩ = some (.normal,⟨lE m s [(27,.bool true)],lH A b⟩) := by
 have on := ones64_run m hm
 have hp := pcn_le m
 have w : IntKind.i64.wrap (s + (pcn m : Int)) = s + pcn m := wrap_id (by omega) (by omega)
 unfold lE lH lgF
 generalize us A = AA
 generalize (m : Int) = X at *
 generalize (pcn m : Int) = c at *
 simp [rQHX0,rQHX1,rQHX2,rQHX3,rQHX4,rQHX5,on,w,h,sQI,iQI,vQI,sQJ,iQJ,vQJ,blk,eds_length,eds_get,edsAt,edAV,allLeaf_eds,cleanL_eds,cleanL_ints,ints_length,ints_get,intsAt,endL,finB]
theorem lg_bnd (A : List Nat) {m : Nat} (hm : m < 18446744073709551616) (s b : Int) (hs : 0 <= s /\ s <= 1000) (h : ¬ s + pcn m <= b) {k : Nat} (hk : k <= 64) (hb : callL cfgS nQJ [.list 1 (us A),.int .u64 m] [] = some (.int .i64 k,[])) : codeL cfgS 3 (.reg rQHX2 true [(5,5),(6,6),(13,13),(14,14),(0,2),(0,4),(1,4),(2,4),(3,4),(7,8),(8,9),(7,10),(7,12),(8,12),(9,12),(10,12),(11,12)] [0,1,2,3,4,27]) ⟨lE m s [(12,.bool true)],lH A b⟩ = some (.normal,⟨lE m s [(27,.bool (decide (s + k <= b)))],lH A b⟩) := by
 have on := ones64_run m hm
 have hp := pcn_le m
 have w : IntKind.i64.wrap (s + (pcn m : Int)) = s + pcn m := wrap_id (by omega) (by omega)
 have w2 : IntKind.i64.wrap (s + (k : Int)) = s + k := wrap_id (by omega) (by omega)
 unfold lE lH lgF
 have lA := us_length A
 generalize us A = AA at *
 generalize (m : Int) = X at *
 generalize (pcn m : Int) = c at *
 generalize (k : Int) = kk at *
 simp [rQHX0,rQHX1,rQHX2,rQHX3,rQHX4,rQHX5,on,w,w2,h,hb,sQI,iQI,vQI,sQJ,iQJ,vQJ,blk,eds_length,eds_get,edsAt,edAV,allLeaf_eds,cleanL_eds,cleanL_ints,ints_length,ints_get,intsAt,endL,finB]
theorem lg_tz (A : List Nat) {m : Nat} (h0 : m ≠ 0) (hm : m < 18446744073709551616) (s b : Int) : codeL cfgS 3 (.reg rQHX3 false [] [0,1,2,3,4,7]) ⟨lE m s [(27,.bool false)],lH A b⟩ = some (.normal,⟨lE m s [(7,.int .i64 (tz m : Nat))],lH A b⟩) := by
 have ht := tz_run m h0 hm
 unfold lE lH lgF
 generalize us A = AA
 generalize (m : Int) = X at *
 simp [rQHX0,rQHX1,rQHX2,rQHX3,rQHX4,rQHX5,ht,sQA,iQA,vQA,blk,eds_length,eds_get,edsAt,edAV,allLeaf_eds,cleanL_eds,cleanL_ints,ints_length,ints_get,intsAt,endL,finB]
theorem lg_wo (A : List Nat) {m : Nat} (h0 : m ≠ 0) (hm : m < 18446744073709551616) (s b : Int) : codeL cfgS 3 (.reg rQHX4 false [] [0,1,2,3,4,7]) ⟨lE m s [(7,.int .i64 (tz m : Nat))],lH A b⟩ = some (.normal,⟨lE (wo m (tz m)) s [(7,.int .i64 (tz m : Nat))],lH A b⟩) := by
 obtain ⟨_,_,ht⟩ := tz_spec h0 hm
 obtain ⟨s1,s2⟩ := shl_n ht
 have w1 := u64_andNot_nat m (2 ^ tz m) hm (pow_n ht)
 unfold lE lH lgF wo
 generalize us A = AA
 generalize (m &&& (18446744073709551615 - 2 ^ tz m) : Nat) = W at *
 generalize (2 ^ tz m : Nat) = p at *
 generalize tz m = t at *
 generalize (m : Int) = X at *
 have t0 : (0 : Int) <= t := by omega
 have t1 : (t : Int) < 64 := by omega
 have t2 : ¬ ((t : Int) < 0) := by omega
 simp [rQHX0,rQHX1,rQHX2,rQHX3,rQHX4,rQHX5,s1,s2,w1,t0,t1,t2,IntKind.bits,Int.toNat_natCast,blk,eds_length,eds_get,edsAt,edAV,allLeaf_eds,cleanL_eds,cleanL_ints,ints_length,ints_get,intsAt,endL,finB]
theorem lg_call {A : List Nat} (hS : Small A) {w t : Nat} (hw : w < 18446744073709551616) (ht : t < A.length) {s b b2 : Int} (hs : 0 <= s /\ s <= 1000) (hc : callL cfgS nQH [.int .u64 (w &&& A.getD t 0 : Nat),.int .i64 (s + 1),.ptr 1 0,.ptr 0 0,.ptr 2 0] (lH A b) = some (.tup [],lH A b2)) : codeL cfgS 3 (.reg rQHX5 true [(9,9),(0,1),(0,2),(1,2),(0,3),(2,3),(0,4),(0,5),(1,5),(0,6),(0,7),(2,7),(5,7),(0,8),(2,8),(5,8)] [0,1,2,3,4]) ⟨lE w s [(7,.int .i64 (t : Nat))],lH A b⟩ = some (.normal,⟨lE w s [],lH A b2⟩) := by
 obtain ⟨r1,r2,r3⟩ := row_n ht
 have w1 := u64_and_nat w (A.getD t 0) hw (getD_lt hS t)
 have w2 : IntKind.i64.wrap (s + 1) = s + 1 := wrap_id (by omega) (by omega)
 have lA := us_length A
 unfold lH lgF at *
 unfold lE
 generalize (w &&& A.getD t 0 : Nat) = W at *
 generalize A.getD t 0 = r at *
 generalize (w : Int) = X at *
 have t0 : (0 : Int) <= t := by omega
 have t2 : ¬ ((t : Int) < 0) := by omega
 have t3 : (t : Int) < A.length := by omega
 generalize us A = AA at *
 simp [rQHX0,rQHX1,rQHX2,rQHX3,rQHX4,rQHX5,r1,r2,r3,w1,w2,lA,hc,t0,t2,t3,ht,plp,plpL,allB,notBox,swC,seesC,inBox,offBoxes,offLab,calmB,sQH,iQH,vQH,Int.toNat_natCast,blk,eds_length,eds_get,edsAt,edAV,allLeaf_eds,cleanL_eds,cleanL_ints,ints_length,ints_get,intsAt,endL,finB]
/- maxclique.longest, by its regions. -/
theorem get_lE (m : Nat) (s : Int) (x : Env) (i : Nat) (h : 4 < i) : opnd cfgS (lE m s x) (.t i) = lend i (Am.get x i) := by
 unfold lE opnd
 simp only [get_cons',if_neg (show i ≠ 0 by omega),if_neg (show i ≠ 1 by omega),if_neg (show i ≠ 2 by omega),if_neg (show i ≠ 3 by omega),if_neg (show i ≠ 4 by omega)]
def lArgs (m : Nat) (s : Int) : List AV := [.int .u64 (m : Nat),.int .i64 s,.ptr 1 0,.ptr 0 0,.ptr 2 0]
def LgEnd (A : List Nat) (m : Nat) (s b b' : Int) : Prop := (∃ m',codeL cfgS 3 (.loop lQHX0) ⟨lE m s [],lH A b⟩ = some (.exit 0,⟨lE m' s [(27,.bool true)],lH A b'⟩)) \/ codeL cfgS 3 (.loop lQHX0) ⟨lE m s [],lH A b⟩ = some (.exit 0,⟨lE 0 s [(12,.bool false)],lH A b'⟩)
theorem lg_fn {A : List Nat} {m : Nat} {s b b' : Int} (h : LgEnd A m s (mxI b s) b') : callL cfgS nQH (lArgs m s) (lH A b) = some (.tup [],lH A b') := by
 have h0 := lg_max A m s b
 rw [callL_end oQH sQH (Nat.le_of_ble_eq_true rfl)]
 unfold qQH cQH
 show endL cfgS _ _ 3 (codeL cfgS 3 _ ⟨lE m s [],lH A b⟩) = _
 rw [codeL_seq,codeL_skip,thenL_n,codeL_seq,h0,thenL_n,codeL_seq,codeL_skip,thenL_n,codeL_blk]
 rcases h with ⟨m',h⟩ | h
 ·rw [h,blkL_e,if_pos rfl]
  unfold lE lH lgF
  generalize us A = AA
  simp [rQHX0,rQHX1,rQHX2,rQHX3,rQHX4,rQHX5,endL,finB,finS,allB,notBox,plp,plpL,inBox,seesC,swC]
 ·rw [h,blkL_e,if_pos rfl]
  unfold lE lH lgF
  generalize us A = AA
  simp [rQHX0,rQHX1,rQHX2,rQHX3,rQHX4,rQHX5,endL,finB,finS,allB,notBox,plp,plpL,inBox,seesC,swC]
theorem lg_loop {A : List Nat} (hS : Small A) (hA : Sym A) : ∀ (m : Nat),m < 18446744073709551616 -> (∀ j,m.testBit j = true -> j < A.length) -> ∀ (s : Nat) (b : Int),(s : Int) <= b -> s + pcn m <= 1000 -> ∃ b',Rg A s m b b' /\ LgEnd A m s b b' := by
 intro m
 induction m using Nat.strongRecOn with
 | ind m ih =>
   intro hm hr s b hsb hsm
   by_cases h0 : m = 0
   ·subst h0
    refine ⟨b,rg_zero hsb,.inr (loop_exit ?_)⟩
    unfold lQHX0
    rw [codeL_seq,codeL_seq,lg_z,thenL_n,codeL_cnd,get_lE _ _ _ _ (by decide)]
    show thenL cfgS 3 _ (codeL cfgS 3 (.exit 0) _) = _
    rw [codeL_exit,thenL_e]
   ·have hs : (0 : Int) <= s /\ (s : Int) <= 1000 := by omega
    have stop : codeL cfgS 3 (.reg rQHX2 true [(5,5),(6,6),(13,13),(14,14),(0,2),(0,4),(1,4),(2,4),(3,4),(7,8),(8,9),(7,10),(7,12),(8,12),(9,12),(10,12),(11,12)] [0,1,2,3,4,27]) ⟨lE m s [(12,.bool true)],lH A b⟩ = some (.normal,⟨lE m s [(27,.bool true)],lH A b⟩) -> LgEnd A m s b b := by
     intro e
     refine .inl ⟨m,loop_exit ?_⟩
     unfold lQHX0
     rw [codeL_seq,codeL_seq,lg_nz A s b h0,thenL_n,codeL_cnd,get_lE _ _ _ _ (by decide)]
     show thenL cfgS 3 _ (codeL cfgS 3 .skip _) = _
     rw [codeL_skip,thenL_n,codeL_blk,codeL_seq,codeL_seq,e,thenL_n,codeL_cnd,get_lE _ _ _ _ (by decide)]
     show blkL 1 (thenL cfgS 3 _ (codeL cfgS 3 (.exit 0) _)) = _
     rw [codeL_exit,thenL_e,blkL_e,if_neg (by decide)]
    by_cases k1 : (s : Int) + pcn m <= b
    ·refine ⟨b,rg_stop fun S hK hI => ?_,stop (lg_cnt A hm s b hs k1)⟩
     have := kq_bits hm hK hI
     have e : ((List.range 64).filter fun j => m.testBit j).length = pcn m := rfl
     omega
    ·obtain ⟨k,q1,q2,q3⟩ := bound_run hS hA m hm hr
     have e2 := lg_bnd A hm s b hs k1 q1 q3
     by_cases k2 : (s : Int) + k <= b
     ·rw [decide_eq_true k2] at e2
      refine ⟨b,rg_stop fun S hK hI => ?_,stop e2⟩
      have := q2 S hK hI
      omega
     ·rw [decide_eq_false k2] at e2
      obtain ⟨_,_,ht⟩ := tz_spec h0 hm
      obtain ⟨tb,_⟩ := tz_bit h0 hm
      have hwl := wo_lt hm ht tb
      have hw : wo m (tz m) < 18446744073709551616 := by omega
      have wb : ∀ j,(wo m (tz m)).testBit j = true -> m.testBit j = true := fun j hj => by
       rw [wo_bit hm ht] at hj
       simp only [Bool.and_eq_true] at hj
       exact hj.1
      have rb : ∀ j,(wo m (tz m) &&& A.getD (tz m) 0).testBit j = true -> (wo m (tz m)).testBit j = true := fun j hj => by
       rw [Nat.testBit_and] at hj
       simp only [Bool.and_eq_true] at hj
       exact hj.1
      have rl : wo m (tz m) &&& A.getD (tz m) 0 <= wo m (tz m) := Nat.and_le_left
      have p1 : pcn (wo m (tz m)) < pcn m := pcn_lt' hm wb hwl
      have p2 : pcn (wo m (tz m) &&& A.getD (tz m) 0) < pcn m := pcn_lt' hm (fun j hj => wb j (rb j hj)) (by omega)
      obtain ⟨b2,g1,g2⟩ := ih (wo m (tz m) &&& A.getD (tz m) 0) (by omega) (by omega) (fun j hj => hr j (wb j (rb j hj))) (s + 1) (mxI b ((s + 1 : Nat) : Int)) (by unfold mxI; split <;> omega) (by omega)
      have g1 := rg_max g1
      have hb2 : (s : Int) <= b2 := by have := g1.1; omega
      have hc := lg_fn g2
      have es : ((s + 1 : Nat) : Int) = (s : Int) + 1 := by omega
      rw [es] at hc
      obtain ⟨b3,f1,f2⟩ := ih (wo m (tz m)) hwl hw (fun j hj => hr j (wb j hj)) s b2 hb2 (by omega)
      have step : codeL cfgS 3 lQHX0 ⟨lE m s [],lH A b⟩ = some (.normal,⟨lE (wo m (tz m)) s [],lH A b2⟩) := by
       unfold lQHX0
       rw [codeL_seq,codeL_seq,lg_nz A s b h0,thenL_n,codeL_cnd,get_lE _ _ _ _ (by decide)]
       show thenL cfgS 3 _ (codeL cfgS 3 .skip _) = _
       rw [codeL_skip,thenL_n,codeL_blk,codeL_seq,codeL_seq,e2,thenL_n,codeL_cnd,get_lE _ _ _ _ (by decide)]
       show blkL 1 (thenL cfgS 3 _ (codeL cfgS 3 .skip _)) = _
       rw [codeL_skip,thenL_n,codeL_seq,lg_tz A h0 hm,thenL_n,codeL_seq,lg_wo A h0 hm,thenL_n,lg_call hS hw (hr _ tb) hs hc,blkL_n]
      refine ⟨b3,rg_step h0 hm g1 f1,?_⟩
      unfold LgEnd at f2 ⊢
      rw [loop_next step]
      exact f2
theorem longest_run {A : List Nat} (hS : Small A) (hA : Sym A) (m : Nat) (hm : m < 18446744073709551616) (hr : ∀ j,m.testBit j = true -> j < A.length) (least : Int) : ∃ r,Rg A 0 m least r /\ callL cfgS nQz [.list 1 (us A),.int .u64 m,.int .i64 least] [] = some (.int .i64 r,[]) := by
 obtain ⟨r,g1,g2⟩ := lg_loop hS hA m hm hr 0 (mxI least ((0 : Nat) : Int)) (by unfold mxI; split <;> omega) (by have := pcn_le m; omega)
 refine ⟨r,rg_max g1,?_⟩
 have hc := lg_fn g2
 rw [callL_end oQz sQz (Nat.le_of_ble_eq_true rfl)]
 unfold qQz cQz
 unfold lArgs lH lgF at hc
 rw [nat0] at hc
 generalize us A = AA at *
 generalize (m : Int) = X at *
 simp [rQzX0,rQzX1,rQzX2,rQzX3,rQzX4,rQzX5,hc,plp,plpL,allB,notBox,swC,seesC,inBox,offBoxes,offLab,calmB,sQH,iQH,vQH,endL,finB,blk]
/- What maxclique.masks returns. -/
theorem masks_loop (N : Nat) (hN : N <= 64) (Es : List Ed) (hE : Es.length < 4294967295) (hv : ∀ e ∈ Es,0 <= e.1 /\ e.1 < e.2 /\ e.2 < (N : Int)) : ∀ (k i : Nat) (A : List Nat),i + k = Es.length -> A.length = N -> Small A -> codeL cfgS 0 (.loop lQyX0) ⟨[(3,.own 1 (us A)),(10,.list 2 (eds Es)),(11,.int .i64 Es.length),(12,.int .i64 i)],[]⟩ =
  some (.exit 0,⟨[(3,.own 1 (us (adjOf (Es.drop i) A))),(10,.list 2 (eds Es)),(11,.int .i64 Es.length),(12,.int .i64 Es.length),(13,.bool false)],[]⟩)
 | 0,i,A,hi,hA,hS => by
   obtain rfl : i = Es.length := by omega
   rw [List.drop_length]
   exact loop_exit (by unfold lQyX0; simp [rQyX0,rQyX1,rQyX2,rQyX3,rQyX4,rQyX5,rQyX6,rQyX7,rQyX8,adjOf,List.foldl_nil])
 | k + 1,i,A,hi,hA,hS => by
   have hlt : i < Es.length := by omega
   have h1 : (i : Int) < Es.length := by omega
   have hw := wrapS (i := i) (by omega)
   obtain ⟨u0,uv,vn⟩ := hv Es[i] (List.getElem_mem hlt)
   have ih := masks_loop N hN Es hE hv k (i + 1) (adF A Es[i]) (by omega) (by rw [adF_length]; exact hA) (adF_small hS (by omega) (by omega))
   rw [List.drop_eq_getElem_cons hlt]
   have v0 : 0 <= Es[i].2 := by omega
   have un : Es[i].1 < (N : Int) := by omega
   have u0' : ¬ Es[i].1 < 0 := by omega
   have v0' : ¬ Es[i].2 < 0 := by omega
   have uN : Es[i].1.toNat < N := by omega
   have vN : Es[i].2.toNat < N := by omega
   have pu := pow_lt64 (v := Es[i].1) (by omega) u0
   have pv := pow_lt64 (v := Es[i].2) (by omega) v0
   have su := shlU (v := Es[i].1) u0 (by omega)
   have sv := shlU (v := Es[i].2) v0 (by omega)
   have su' : IntKind.u64.wrap (2 ^ (min Es[i].1.toNat 64)) = ((2 ^ Es[i].1.toNat : Nat) : Int) := by rw [<- su,Int.one_mul]
   have sv' : IntKind.u64.wrap (2 ^ (min Es[i].2.toNat 64)) = ((2 ^ Es[i].2.toNat : Nat) : Int) := by rw [<- sv,Int.one_mul]
   have gu : (us A)[Es[i].1.toNat]? = some (.int .u64 (A.getD Es[i].1.toNat 0 : Nat)) := by
    rw [us_get,List.getD_eq_getElem?_getD,List.getElem?_eq_getElem (by omega)]; rfl
   have xu := getD_lt hS Es[i].1.toNat
   have ou := u64_or_nat (A.getD Es[i].1.toNat 0) (2 ^ Es[i].2.toNat) xu pv
   have eu := us_set A Es[i].1.toNat (A.getD Es[i].1.toNat 0 ||| 2 ^ Es[i].2.toNat)
   have sm : Small (A.set Es[i].1.toNat (A.getD Es[i].1.toNat 0 ||| 2 ^ Es[i].2.toNat)) := set_small hS (Nat.or_lt_two_pow (n := 64) xu pv)
   have eln : (A.set Es[i].1.toNat (A.getD Es[i].1.toNat 0 ||| 2 ^ Es[i].2.toNat)).length = N := by rw [List.length_set]; exact hA
   have ead : adjOf (Es[i] :: Es.drop (i + 1)) A = adjOf (Es.drop (i + 1)) (adF A Es[i]) := rfl
   rw [ead]
   have eA : adF A Es[i] = (A.set Es[i].1.toNat (A.getD Es[i].1.toNat 0 ||| 2 ^ Es[i].2.toNat)).set Es[i].2.toNat ((A.set Es[i].1.toNat (A.getD Es[i].1.toNat 0 ||| 2 ^ Es[i].2.toNat)).getD Es[i].2.toNat 0 ||| 2 ^ Es[i].1.toNat) := rfl
   rw [eA] at ih ⊢
   generalize hA1 : A.set Es[i].1.toNat (A.getD Es[i].1.toNat 0 ||| 2 ^ Es[i].2.toNat) = A1 at *
   have gv : (us A1)[Es[i].2.toNat]? = some (.int .u64 (A1.getD Es[i].2.toNat 0 : Nat)) := by
    rw [us_get,List.getD_eq_getElem?_getD,List.getElem?_eq_getElem (by omega)]; rfl
   have ov := u64_or_nat (A1.getD Es[i].2.toNat 0) (2 ^ Es[i].1.toNat) (getD_lt sm _) pu
   have ev := us_set A1 Es[i].2.toNat (A1.getD Es[i].2.toNat 0 ||| 2 ^ Es[i].1.toNat)
   generalize A1.getD Es[i].2.toNat 0 ||| 2 ^ Es[i].1.toNat = q at *
   generalize A.getD Es[i].1.toNat 0 ||| 2 ^ Es[i].2.toNat = p at *
   generalize A1.getD Es[i].2.toNat 0 = y at *
   generalize A.getD Es[i].1.toNat 0 = x at *
   generalize 2 ^ Es[i].1.toNat = pU at *
   generalize 2 ^ Es[i].2.toNat = pV at *
   clear pu pv xu sm eA ead hA1
   have gu' : ∀ h : Es[i].1.toNat < (us A).length,(us A)[Es[i].1.toNat] = .int .u64 (x : Int) := fun h => by rw [List.getElem?_eq_getElem h] at gu; exact Option.some.inj gu
   have gv' : ∀ h : Es[i].2.toNat < (us A1).length,(us A1)[Es[i].2.toNat] = .int .u64 (y : Int) := fun h => by rw [List.getElem?_eq_getElem h] at gv; exact Option.some.inj gv
   refine (loop_next (s' := ⟨[(3,.own 1 (us (A1.set Es[i].2.toNat q))),(10,.list 2 (eds Es)),(11,.int .i64 Es.length),(12,.int .i64 ((i + 1 : Nat) : Int))],[]⟩) ?_).trans ih
   have g1 : (eds Es)[i]? = some (.agg [.int .i64 Es[i].1,.int .i64 Es[i].2]) := by rw [eds_get,List.getElem?_eq_getElem hlt]; rfl
   have g2 : ∀ h,(eds Es)[i]'h = .agg [.int .i64 Es[i].1,.int .i64 Es[i].2] := fun h => edsAt ..
   have g5 := eds_length Es
   have vN' : Es[i].2 < (N : Int) := vn
   unfold lQyX0
   simp [rQyX0,rQyX1,rQyX2,rQyX3,rQyX4,rQyX5,rQyX6,rQyX7,rQyX8,h1,hlt,hw,u0,v0,u0',v0',un,vn,uv,uN,vN,su,sv,su',sv',gu,gv,gu',gv',g1,g2,g5,ou,ov,eu,ev,hA,eln,us_length,idx,IntKind.bits,fz,pl,AV.leaf,blk]
theorem masks_run {N : Nat} {Es : List Ed} (h : GOK (N : Int) Es) (hE : Es.length < 4294967295) : callL cfgS nQy [.agg [.int .i64 N,.list 2 (eds Es)]] [] = some (.list 1 (us (adjE N Es)),[]) := by
 have hn : N <= 64 := by have := h.1; omega
 have hl := masks_loop N hn Es hE h.2.2 Es.length 0 (List.replicate N 0) (by omega) (by simp) (fun x hx => by have := List.eq_of_mem_replicate hx; omega)
 rw [nat0,List.drop_zero] at hl
 have r1 : List.replicate N (AV.int .u64 0) = us (List.replicate N 0) := us_rep N
 have n0 : ¬ (N : Int) < 0 := by omega
 have nL : (N : Int) <= 4294967296 := by omega
 have m1 : max (N : Int) 0 = (N : Int) := by omega
 have m2 : ¬ (64 : Int) < N := by omega
 have ea : adjOf Es (List.replicate N 0) = adjE N Es := rfl
 rw [ea] at hl
 have tk : (us (adjE N Es)).take (adjE N Es).length = us (adjE N Es) := by rw [us_take,List.take_length]
 have e := (adj_spec h).1
 have tkr : (us (List.replicate N 0)).take N = us (List.replicate N 0) := by
  have := List.take_length (l := us (List.replicate N 0))
  rwa [us_length,List.length_replicate] at this
 rw [e] at tk
 have g5 := eds_length Es
 rw [callL_end oQy sQy (Nat.le_of_ble_eq_true rfl)]
 unfold qQy cQy
 generalize eds Es = Y at *
 simp [rQyX0,rQyX1,rQyX2,rQyX3,rQyX4,rQyX5,rQyX6,rQyX7,rQyX8,hl,r1,tkr,e,List.length_replicate,n0,nL,m1,m2,us_length,tk,g5,LIM,blk,plL,pl,endL,finB]
/- What maxclique.Best returns: a largest clique. -/
def nz (l : List Nat) : List Int := l.map fun (n : Nat) => (n : Int)
theorem nz_length (l : List Nat) : (nz l).length = l.length := List.length_map _
theorem nz_snoc (l : List Nat) (v : Nat) : nz (l ++ [v]) = nz l ++ [(v : Int)] := by simp [nz]
def InR (A : List Nat) (m : Nat) : Prop := m < 18446744073709551616 /\ ∀ j,m.testBit j = true -> j < A.length
theorem bst_in {A : List Nat} (hS : Small A) (hA : Sym A) {m0 w : Nat} {O : List Nat} {m left : Nat} (hO : O.length <= 1000) (hb : Bst A m0 O m left w) (hl : 0 < left) (hl2 : left <= 1000) : ∀ mm,InR A mm -> Fnd A m left mm ->
  ∃ v rest,Bst A m0 (O ++ [v]) rest (left - 1) w /\ InR A rest /\ codeL cfgS 0 (.loop lQkX0) ⟨[(5,.list 1 (us A)),(6,.int .u64 m),(7,.own 1 (ints (nz O))),(8,.int .i64 left),(9,.int .u64 mm)],[]⟩ = some (.exit 2,⟨[(5,.list 1 (us A)),(6,.int .u64 rest),(7,.own 1 (ints (nz (O ++ [v])))),(8,.int .i64 left)],[]⟩) := by
 intro mm
 induction mm using Nat.strongRecOn with
 | ind mm ih =>
   intro hm hf
   have h0 := hf.ne hl
   have n0 : ¬ ((mm : Int) = 0) := by omega
   obtain ⟨hm,hr⟩ := hm
   obtain ⟨_,_,ht⟩ := tz_spec h0 hm
   obtain ⟨tb,_⟩ := tz_bit h0 hm
   have htz := tz_run mm h0 hm
   obtain ⟨r1,r2,r3⟩ := row_n (hr _ tb)
   obtain ⟨s1,s2⟩ := shl_n ht
   have hp := pow_n ht
   have hg := getD_lt hS (tz mm)
   have w1 := u64_andNot_nat mm (2 ^ tz mm) hm hp
   have hwl := wo_lt hm ht tb
   have hw : wo mm (tz mm) < 18446744073709551616 := by omega
   have w2 := u64_and_nat (wo mm (tz mm)) (A.getD (tz mm) 0) hw hg
   have wb : ∀ j,(wo mm (tz mm) &&& A.getD (tz mm) 0).testBit j = true -> mm.testBit j = true := fun j hj => by
    rw [Nat.testBit_and,wo_bit hm ht] at hj
    simp only [Bool.and_eq_true] at hj
    exact hj.1.1
   have rl : wo mm (tz mm) &&& A.getD (tz mm) 0 <= wo mm (tz mm) := Nat.and_le_left
   obtain ⟨r,g1,g2⟩ := longest_run hS hA (wo mm (tz mm) &&& A.getD (tz mm) 0) (by omega) (fun j hj => hr j (wb j hj)) ((left : Int) - 2)
   have w3 : IntKind.i64.wrap ((left : Int) - 2) = left - 2 := wrap_id (by omega) (by omega)
   have w4 : IntKind.i64.wrap ((left : Int) - 1) = left - 1 := wrap_id (by omega) (by omega)
   have t0 : (0 : Int) <= (tz mm : Nat) := by omega
   have t1 : ((tz mm : Nat) : Int) < 64 := by omega
   have t2 : ¬ (((tz mm : Nat) : Int) < 0) := by omega
   have lA := us_length A
   unfold wo at w2
   by_cases k : (left : Int) - 1 <= r
   ·refine ⟨tz mm,_,hf.take hb hl hm g1 k,⟨by omega,fun j hj => hr j (wb j hj)⟩,loop_exit ?_⟩
    have hL : (nz O).length + 1 <= 4294967296 := by rw [nz_length]; omega
    rw [nz_snoc]
    unfold wo at g2 ⊢
    clear ih g1 hf hb wb rl hw hwl hr tb hg hp hm hS hA
    generalize nz O = P at *
    generalize (mm &&& (18446744073709551615 - 2 ^ tz mm)) &&& A.getD (tz mm) 0 = W at *
    generalize (mm &&& (18446744073709551615 - 2 ^ tz mm)) = W2 at *
    generalize A.getD (tz mm) 0 = q at *
    generalize (2 ^ tz mm : Nat) = p at *
    generalize tz mm = t at *
    generalize us A = AA at *
    unfold lQkX0
    simp [rQkX0,rQkX1,rQkX2,rQkX3,rQkX4,rQkX5,rQkX6,rQkX7,rQkX8,rQkX9,rQkX10,rQkX11,rQkX12,rQkX13,rQkX14,rQkX15,rQkX16,rQkX17,n0,h0,htz,r1,r2,r3,s1,s2,w1,w2,w3,w4,g2,k,t0,t1,t2,lA,hL,LIM,ints_snoc,ints_take,IntKind.bits,sQA,iQA,vQA,sQz,iQz,vQz,Int.toNat_natCast,blk,eds_length,eds_get,edsAt,edAV,allLeaf_eds,cleanL_eds,cleanL_ints,ints_length,ints_get,intsAt,endL,finB]
   ·have hd := drop_lt h0
    have hmiss := hf.miss hl hm g1 (by omega)
    have dr : InR A (mm &&& (mm - 1)) := ⟨by omega,fun j hj => by
     rw [drop_bit h0 hm] at hj
     simp only [Bool.and_eq_true] at hj
     exact hr j hj.1⟩
    obtain ⟨v,rest,a1,a2,a3⟩ := ih _ hd dr hmiss
    refine ⟨v,rest,a1,a2,(loop_next ?_).trans a3⟩
    have d1 := decU h0 hm
    have d2 := u64_and_nat mm (mm - 1) hm (by omega)
    unfold wo at g2
    clear ih g1 hf hb wb rl hw hwl hr tb hg hp hS hA a1 a2 a3 hmiss dr hm hd
    generalize nz O = P at *
    generalize mm &&& (mm - 1) = D at *
    generalize mm - 1 = D1 at *
    generalize (mm &&& (18446744073709551615 - 2 ^ tz mm)) &&& A.getD (tz mm) 0 = W at *
    generalize (mm &&& (18446744073709551615 - 2 ^ tz mm)) = W2 at *
    generalize A.getD (tz mm) 0 = q at *
    generalize (2 ^ tz mm : Nat) = p at *
    generalize tz mm = t at *
    generalize us A = AA at *
    unfold lQkX0
    simp [rQkX0,rQkX1,rQkX2,rQkX3,rQkX4,rQkX5,rQkX6,rQkX7,rQkX8,rQkX9,rQkX10,rQkX11,rQkX12,rQkX13,rQkX14,rQkX15,rQkX16,rQkX17,n0,h0,htz,r1,r2,r3,s1,s2,w1,w2,w3,w4,g2,k,t0,t1,t2,lA,d1,d2,IntKind.bits,sQA,iQA,vQA,sQz,iQz,vQz,Int.toNat_natCast,blk,eds_length,eds_get,edsAt,edAV,allLeaf_eds,cleanL_eds,cleanL_ints,ints_length,ints_get,intsAt,endL,finB]
/- maxclique.Best: its outer loop, and the whole. -/
theorem bst_out {A : List Nat} (hS : Small A) (hA : Sym A) {m0 w : Nat} : ∀ (left : Nat) (O : List Nat) (m : Nat),Bst A m0 O m left w -> InR A m -> O.length + left <= 1000 ->
  ∃ O' m',Bst A m0 O' m' 0 w /\ codeL cfgS 0 (.loop lQkX1) ⟨[(5,.list 1 (us A)),(6,.int .u64 m),(7,.own 1 (ints (nz O))),(8,.int .i64 left)],[]⟩ = some (.exit 0,⟨[(5,.list 1 (us A)),(6,.int .u64 m'),(7,.own 1 (ints (nz O'))),(8,.int .i64 (0 : Nat)),(27,.bool false)],[]⟩)
 | 0,O,m,hb,hm,hl => by
   refine ⟨O,m,hb,loop_exit ?_⟩
   generalize us A = AA at *
   unfold lQkX1
   simp [rQkX0,rQkX1,rQkX2,rQkX3,rQkX4,rQkX5,rQkX6,rQkX7,rQkX8,rQkX9,rQkX10,rQkX11,rQkX12,rQkX13,rQkX14,rQkX15,rQkX16,rQkX17,nat0,blk,eds_length,eds_get,edsAt,edAV,allLeaf_eds,cleanL_eds,cleanL_ints,ints_length,ints_get,intsAt,endL,finB]
 | left + 1,O,m,hb,hm,hl => by
   obtain ⟨v,rest,a1,a2,a3⟩ := bst_in hS hA (by omega) hb (Nat.succ_pos left) (by omega) m hm hb.fnd
   obtain ⟨O',m',b1,b2⟩ := bst_out hS hA left (O ++ [v]) rest a1 a2 (by simp; omega)
   refine ⟨O',m',b1,(loop_next ?_).trans b2⟩
   have p0 : (0 : Int) < ((left + 1 : Nat) : Int) := by omega
   have w1 : IntKind.i64.wrap (((left + 1 : Nat) : Int) - 1) = left := by rw [wrap_id (by omega) (by omega)]; omega
   clear b2 a1 hb a2
   generalize ((left + 1 : Nat) : Int) = L at *
   generalize nz (O ++ [v]) = P2 at *
   generalize nz O = P at *
   generalize us A = AA at *
   unfold lQkX1
   simp [rQkX0,rQkX1,rQkX2,rQkX3,rQkX4,rQkX5,rQkX6,rQkX7,rQkX8,rQkX9,rQkX10,rQkX11,rQkX12,rQkX13,rQkX14,rQkX15,rQkX16,rQkX17,p0,w1,a3,blk,eds_length,eds_get,edsAt,edAV,allLeaf_eds,cleanL_eds,cleanL_ints,ints_length,ints_get,intsAt,endL,finB]
theorem ones_pow (n : Nat) (j : Nat) : (2 ^ n - 1).testBit j = decide (j < n) := Nat.testBit_two_pow_sub_one n j
theorem adj_sym {N : Nat} {Es : List Ed} (h : GOK (N : Int) Es) : Sym (adjE N Es) := fun a b => by
 rw [(adj_spec h).2.2,(adj_spec h).2.2,Bool.or_comm]
theorem kq_qs {N : Nat} {Es : List Ed} (h : GOK (N : Int) Es) (S : List Nat) : (Kq (adjE N Es) S /\ Inb (2 ^ N - 1) S) ↔ QS N Es S := by
 have e : ∀ a b : Nat,((adjE N Es).getD a 0).testBit b = true ↔ jn Es (a : Int) (b : Int) := fun a b => by
  rw [(adj_spec h).2.2,Bool.or_eq_true,decide_eq_true_eq,decide_eq_true_eq]
  rfl
 unfold Kq Inb QS
 constructor
 ·rintro ⟨h1,h2⟩
  exact ⟨h1.imp fun {a b} k => ⟨k.1,(e a b).1 k.2⟩,fun x hx => by have := h2 x hx; rw [ones_pow] at this; simpa using this⟩
 ·rintro ⟨h1,h2⟩
  exact ⟨h1.imp fun {a b} k => ⟨k.1,(e a b).2 k.2⟩,fun x hx => by rw [ones_pow]; simpa using h2 x hx⟩
def Fst (N : Nat) (Es : List Ed) (O : List Nat) : Prop := ∀ T,QS N Es T -> T.length = O.length -> T = O \/ ∃ P a b T' O',T = P ++ a :: T' /\ O = P ++ b :: O' /\ b < a
theorem best1_run {N : Nat} {Es : List Ed} (h : GOK (N : Int) Es) (hN : N <= 63) (hE : Es.length < 1000000) : ∃ O,(Lgst N Es O /\ Fst N Es O) /\ callL cfgS nQk [.agg [.int .i64 N,.list 2 (eds Es)]] [] = some (.tup [.list 1 (ints (nz O)),.int .i64 0],[]) := by
 have ck := gchk_run (N : Int) Es (by omega)
 rw [chkG_zero.2 h] at ck
 have mk := masks_run h (by omega)
 obtain ⟨eN,hS,_⟩ := adj_spec h
 have hA := adj_sym h
 have hp := pow_n (v := N) (by omega)
 have hp0 : 0 < 2 ^ N := Nat.two_pow_pos N
 have ir : InR (adjE N Es) (2 ^ N - 1) := ⟨by omega,fun j hj => by rw [ones_pow] at hj; rw [eN]; simpa using hj⟩
 obtain ⟨r,g1,g2⟩ := longest_run hS hA (2 ^ N - 1) ir.1 ir.2 0
 obtain ⟨w,rfl,hb,hmax⟩ := bst_start g1
 have hw : w <= 64 := by
  obtain ⟨S,k1,k2,k3⟩ := hb.ex
  have := kq_bits ir.1 k1 k2
  have e2 : ((List.range 64).filter fun j => (2 ^ N - 1).testBit j).length = pcn (2 ^ N - 1) := rfl
  have := pcn_le (2 ^ N - 1)
  omega
 obtain ⟨O,m',c1,c2⟩ := bst_out hS hA w [] (2 ^ N - 1) hb ir (by simp; omega)
 refine ⟨O,⟨⟨(kq_qs h O).1 ⟨c1.kq,c1.inb⟩,fun T hT => ?_⟩,fun T hT hl => ?_⟩,?_⟩
 ·obtain ⟨t1,t2⟩ := (kq_qs h T).2 hT
  have := hmax T t1 t2
  have := c1.len
  omega
 ·obtain ⟨t1,t2⟩ := (kq_qs h T).2 hT
  have ln := c1.len
  rcases c1.fst T t1 t2 (by omega) with k | ⟨R,rfl,_⟩
  ·exact .inr k
  ·left
   have : R = [] := by simpa using hl
   rw [this,List.append_nil]
 ·obtain ⟨s1,s2⟩ := shl_n (v := N) (by omega)
  have s3 := s1
  rw [Nat.min_eq_left (show N <= 64 by omega)] at s3
  have d1 : IntKind.u64.wrap (((2 ^ N : Nat) : Int) - 1) = ((2 ^ N - 1 : Nat) : Int) := decU (by omega) hp
  have tk := List.take_length (l := ints (nz O))
  rw [ints_length] at tk
  have nn : ¬ (N : Int) < 0 := by omega
  have n0 : (0 : Int) <= N := by omega
  have n6 : N <= 64 := by omega
  have nL : (nz O).length <= 4294967296 := by
   have := c1.len
   rw [nz_length]; omega
  rw [callL_end oQk sQk (Nat.le_of_ble_eq_true rfl)]
  unfold qQk cQk
  rw [show nz [] = [] from rfl,ints_nil,nat0] at c2
  clear hb hmax g1 c1 hS hA eN ir hp0 h
  generalize nz O = P at *
  generalize (2 ^ N - 1 : Nat) = M at *
  generalize (2 ^ N : Nat) = M2 at *
  generalize us (adjE N Es) = AA at *
  simp [rQkX0,rQkX1,rQkX2,rQkX3,rQkX4,rQkX5,rQkX6,rQkX7,rQkX8,rQkX9,rQkX10,rQkX11,rQkX12,rQkX13,rQkX14,rQkX15,rQkX16,rQkX17,ck,mk,g2,c2,s1,s2,s3,d1,tk,nn,n0,n6,nL,LIM,IntKind.bits,nat0,plL,pl,sQt,iQt,vQt,sQy,iQy,vQy,sQz,iQz,vQz,Int.toNat_natCast,blk,eds_length,eds_get,edsAt,edAV,allLeaf_eds,cleanL_eds,cleanL_ints,ints_length,ints_get,intsAt,endL,finB]
end Go.BmP
