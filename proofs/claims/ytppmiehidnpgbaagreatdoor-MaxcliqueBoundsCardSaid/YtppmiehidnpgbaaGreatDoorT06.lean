/- The neighbours and the degree of a node, by the reference. -/
import Derived.Test.YtppmiehidnpgbaaGreatDoorUseM
import Derived.Test.YtppmiehidnpgbaaGreatDoorX11
import Derived.Test.YtppmiehidnpgbaaGreatDoorR02d
import Derived.Test.YtppmiehidnpgbaaGreatDoorK05
set_option linter.unusedSimpArgs false
set_option linter.unusedVariables false
set_option maxRecDepth 100000
set_option maxHeartbeats 4000000
open List renaming getElem?_eq_getElem → aB, length_cons → cj, map_cons → jE, mem_map → eZ, take_of_length_le → du
open Option.some renaming inj → dn
namespace Go.BmP
open Go.Am Go.Bm
def LV (v : Int) (e : Ed) : List Int := (if e.1 = v then [e.2] else []) ++ (if e.2 = v then [e.1] else [])
def PS (v : Int) (Es : List Ed) (o : List Int) (i : Nat) (J : Env) : St := ⟨(1,.int .i64 v) :: (5,.own 1 (ints o)) :: (12,.list 2 (dO Es)) :: (13,.int .i64 Es.length) :: (14,.int .i64 i) :: J,[]⟩
theorem YG (v : Int) (Es : List Ed) (hE : Es.length < 1000000) (i : Nat) (hi : i < Es.length) (o : List Int) (ho : o.length < 4294967290) : aW au 0 F3 (PS v Es o i []) = some (.normal,PS v Es (o ++ LV v Es[i]) (i + 1) []) := by
 have k1 : (i : Int) < Es.length := by omega
 have hw := eT (i := i) (by omega);have g3 : (dO Es)[i]? = some (.agg [.int .i64 Es[i].1,.int .i64 Es[i].2]) := by rw [aM,aB hi]; simp [bV]
 have g4 : ∀ h,(dO Es)[i]'h = .agg [.int .i64 Es[i].1,.int .i64 Es[i].2] := fun h => by
  have := aB (l := dO Es) h;rw [g3] at this;exact (dn this).symm
 have g5 := aq Es;have l1 : o.length + 1 <= 4294967296 := by omega
 have l2 : (o ++ [Es[i].2]).length + 1 <= 4294967296 := by simp; omega
 have l3 : o.length + 1 + 1 <= 4294967296 := by omega
 generalize Es[i] = e at *;obtain ⟨a,b⟩ := e;unfold PS F3 LV;generalize dO Es = Y at *;have t2 : List.take (o.length + 1) (ints (o ++ [b])) = ints (o ++ [b]) := du (by simp [ints]);have t3 : List.take (o.length + 2) (o ++ [v,v]) = o ++ [v,v] := du (by simp);by_cases h1 : a = v
 ·by_cases h2 : b = v
  ·simp [uU,uT,uS,uR,uQ,uP,uO,uM,uL,uK,qL,qK,qJ,k1,hi,hw,g3,g4,g5,l1,l2,l3,t2,t3,h1,h2,lj,idx,aN,af,eB,bY]
  ·simp [uU,uT,uS,uR,uQ,uP,uO,uM,uL,uK,qL,qK,qJ,k1,hi,hw,g3,g4,g5,l1,l2,h1,h2,lj,idx,aN,af,eB,bY]
 ·by_cases h2 : b = v
  ·simp [uU,uT,uS,uR,uQ,uP,uO,uM,uL,uK,qL,qK,qJ,k1,hi,hw,g3,g4,g5,l1,l2,h1,h2,lj,idx,aN,af,eB,bY]
  ·simp [uU,uT,uS,uR,uQ,uP,uO,uM,uL,uK,qL,qK,qJ,k1,hi,hw,g3,g4,g5,l1,l2,h1,h2,lj,idx,aN,af,eB,bY]
theorem TO (v : Int) (e : Ed) : (LV v e).length <= 2 := by
 unfold LV; split <;> split <;> simp
theorem TN (v : Int) (Es : List Ed) (hE : Es.length < 1000000) : ∀ (k i : Nat) (o : List Int),i + k = Es.length -> o.length <= 2 * i -> aW au 0 (.loop F3) (PS v Es o i []) = some (.exit 0,PS v Es (o ++ ((Es.drop i).map (LV v)).flatten) Es.length [(15,.bool false)])
 | 0,i,o,hi,ho => by
   obtain rfl : i = Es.length := by omega
   rw [List.drop_length,List.map_nil,List.flatten_nil,List.append_nil];refine bw ?_;unfold PS F3;generalize dO Es = Y at *;simp [uU,uT,uS,uR,uQ,uP,uO,uM,uL,uK,qL,qK,qJ]
 | k + 1,i,o,hi,ho => by
   have bL : i < Es.length := by omega
   have := TO v Es[i];have ih := TN v Es hE k (i + 1) (o ++ LV v Es[i]) (by omega) (by simp; omega);rw [List.append_assoc] at ih;rw [List.drop_eq_getElem_cons bL,jE,List.flatten_cons];exact (aY (YG v Es hE i bL o (by omega))).trans ih
theorem agt {N : Nat} {Es : List Ed} (hG : ke (N : Int) Es) {v : Int} (h0 : 0 <= v) (h1 : v < N) : bZ (Es.map (LV v)).flatten = B3 N Es v := by
 refine qW (dC _).1 (PR hG h0 h1) fun x => ?_;rw [(dC _).2,o9 hG h0 h1,List.mem_flatten];unfold jn;constructor
 ·rintro ⟨l,hl,hx⟩;obtain ⟨e,he,rfl⟩ := eZ.1 hl;unfold LV at hx;rcases List.mem_append.1 hx with h | h
  ·split at h
   ·rename_i k; simp at h; subst h; left; rw [<- k]; exact he
   ·cases h
  ·split at h
   ·rename_i k; simp at h; subst h; right; rw [<- k]; exact he
   ·cases h
 ·rintro (h | h)
  ·exact ⟨_,eZ.2 ⟨_,h,rfl⟩,by simp [LV]⟩
  ·exact ⟨_,eZ.2 ⟨_,h,rfl⟩,by simp [LV]⟩
theorem FK {N : Nat} {Es : List Ed} (hG : ke (N : Int) Es) (hE : Es.length < 1000000) {v : Int} (h0 : 0 <= v) (h1 : v < N) : br au PW [.agg [.int .i64 N,.list 2 (dO Es)],.int .i64 v] [] = some (.list 1 (ints (B3 N Es v)),[]) := by
 have g := yM N Es (by omega);rw [iw.2 hG] at g;have lp := TN v Es hE Es.length 0 [] (by omega) (by simp);rw [List.drop_zero,List.nil_append] at lp
 have bl : (Es.map (LV v)).flatten.length <= 2 * Es.length := by
  have : ∀ l : List Ed,(l.map (LV v)).flatten.length <= 2 * l.length := by
   intro l
   induction l with
   | nil => simp
   | cons e r ih =>
     have := TO v e;simp only [jE,List.flatten_cons,List.length_append,cj];omega
  exact this Es
 have of := FD (Es.map (LV v)).flatten (by omega);rw [agt hG h0 h1] at of;have tk : List.take (Es.map (LV v)).flatten.length (ints (Es.map (LV v)).flatten) = ints (Es.map (LV v)).flatten := du (by rw [af]; omega);have g5 := aq Es;have g6 := af (Es.map (LV v)).flatten;unfold PS at lp;rw [fY,cV] at lp;rw [aV oQb5 sQb5 (Nat.le_of_ble_eq_true rfl)];unfold qQb5 cQb5;generalize (Es.map (LV v)).flatten = fl at *;cases fl with
 | nil =>
   rw [cV] at *;generalize dO Es = Y at *;generalize ints (B3 N Es v) = nv at *;simp [uU,uT,uS,uR,uQ,uP,uO,uM,uL,uK,qL,qK,qJ,g,lp,of,tk,g5,g6,aN,sQ2,iQ2,lQ2,sQo,iQo,lQo,gz,pl,bu,bq]
 | cons x r =>
   rw [jD] at *;rw [cj] at *;generalize dO Es = Y at *;generalize ints (B3 N Es v) = nv at *;generalize ints r = rr at *;simp [uU,uT,uS,uR,uQ,uP,uO,uM,uL,uK,qL,qK,qJ,g,lp,of,tk,g5,g6,aN,sQ2,iQ2,lQ2,sQo,iQo,lQo,gz,pl,bu,bq]
end Go.BmP
