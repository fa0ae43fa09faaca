/- The law MaxcliqueSides returns true at every input, and leaves its arguments as they read. No condition but the card's own: the table of math/bits starts as the program's text lays it. -/
import Derived.Test.YtoobjomjclombaaDoorCards
import Derived.Test.YtoobjomjclombaaDoorTie
import Derived.Test.YtoobjomjclombaaDoorCoL
import Derived.Test.YtoobjomjclombaaDoorInpV
import Derived.WalkKit
import Derived.ProofKit
import Derived.OpenShut
import Derived.Deep.DeepHandedRow
import Derived.Lib.LaidTab
namespace Go.Proofs.YtoobjomjclombaaDoor.maxcliqueSides
open Go.ChangeShapes Go.WideShapes Go.ChangeAt Go.RowKit
open Go.Am Go.Bm Go.BmP
set_option linter.unusedVariables false
theorem own : ownKnob Tryd.prog.godebug = none := by kernel_rfl
theorem laidOut : laidOutB Tryd.prog = true := by kernel_rfl
set_option maxRecDepth 100000 in
theorem opened {H : Type} {enc : TypeId × Value -> H} {W : World} {v : Value} {d : DataW H} {p : List MemPlace} {base : Nat}
  (hv : Value.okWide Tryd.prog W .any base 22 v) (h : DataW.Trod enc Tryd.prog W 0 (fun _ => true) true 22 v d p) :
  ∃ a len cap zs,v = .slice a len cap /\ IsRow .i64 W a len cap zs /\ ∀ x ∈ p,x.block < W.heap.size := by
 obtain ⟨a0,len0,cap0,rfl⟩ := okWide_slice Tryd.underlying22 hv;have k0 := h;have lt0 : ∀ x ∈ p,x.block < W.heap.size := by obtain ⟨m,hm⟩ := k0; exact DataW.trod_lt m _ _ _ hm
 obtain ⟨fuel,hf⟩ := h;rcases open_ints Tryd.underlying22 Tryd.underlying3 (by kernel_rfl) hf with ⟨hcs,hx⟩ | ⟨x,l,c,zs,hcs,_,hl,hm,hz,hx,hcell,hwz⟩
 ·simp [Value.cells] at hcs;obtain ⟨rfl,rfl,rfl⟩ := hcs;cases hx;exact ⟨none,0,0,[],rfl,.inl ⟨rfl,rfl,rfl,rfl⟩,lt0⟩
 ·simp [Value.cells] at hcs;obtain ⟨rfl,rfl,rfl⟩ := hcs;cases hx;refine ⟨_,_,_,zs,rfl,.inr ⟨_,rfl,hl,hm,by simpa using hz,hcell,hwz⟩,lt0⟩
theorem gQa9 : Tryd.prog.globalNamed "math/bits.deBruijn64tab" = some nQa9 := by kernel_rfl
theorem gTabType : (Tryd.prog.globals[nQa9]?).map (·.type) = some 95 := by kernel_rfl
theorem cellsT : Tryd.prog.cellsOf 95 = 64 := by kernel_rfl
theorem cellsE : Tryd.prog.cellsOf 5 = 1 := by kernel_rfl
theorem table {W : World} (h : laidMetH Tryd.prog Rows.maxcliqueSidesRow.laid W) : Lib.TabIs Tryd.prog W "math/bits.deBruijn64tab" .u8 tabZ :=
 Lib.tabIs_of_head (rest := []) gQa9 gTabType Tryd.underlying95 Tryd.underlying5 cellsE cellsT h
theorem gl {W : World} (h : laidMetH Tryd.prog Rows.maxcliqueSidesRow.laid W) : Am.GlOK (cAm cfgS) (fun _ => False) [] W :=
 glOK_tab (g0 := nQa9) (k := .u8) (zs := tabZ) (fun g => rfl) fun i hi => ((table h).cell gQa9 i hi).trans (by rw [List.getD_eq_getElem?_getD,List.getElem?_eq_getElem hi]; rfl)
set_option maxRecDepth 100000 in
theorem contract (H : Type) (enc : TypeId × Value -> H) (W : World) (base : Nat) (args : Array Value) (ds gs : List (DataW H)) (before : List MemPlace)
  (hval : ∀ (j : Nat) t v,Tryd.f3.params[j]? = some t -> args[j]? = some v -> Value.okWide Tryd.prog W .any base t v)
  (hW : DataW.Whole enc Tryd.prog Tryd.f3.params.toList Rows.maxcliqueSidesSpec.vars false W args.toList ds gs before) (hL : laidMetH Tryd.prog Rows.maxcliqueSidesRow.laid W) :
  Calls Tryd.prog 3 args W fun e W' => ∃ v,e = .returned v /\ Rows.maxcliqueSidesSpec.post enc Tryd.prog Tryd.f3 false true false false W args v W' := by
 have hW' := hW;obtain ⟨p,q,hA0,hV,rfl,hfz,hnd⟩ := hW;have hA : DataW.TrodAll enc Tryd.prog W 0 (fun _ => true) true Tryd.f3.params.toList args.toList ds p := hA0;rw [Tryd.params3] at hA hval;obtain ⟨v0,vs0,d0,ds0,p0,q0,hargs,rfl,rfl,h0,r0⟩ := trodAll_cons hA;obtain ⟨rfl,rfl,rfl⟩ := trodAll_nil r0;obtain rfl : args = #[v0] := by cases args; simp_all
 obtain ⟨rfl,rfl⟩ := trodVars_none hV;obtain ⟨a0,l0,c0,z0,rfl,w0,lt0⟩ := opened (hval 0 22 v0 rfl rfl) h0;clear hA0;simp only [List.append_nil] at hW';have hc := calls_boolL cfgSOK cfgSInp cfgSOrc (show cfgS.fn nQa = _ from sQa) rfl (sides_run (z0.take l0)) rfl (ARel.cons (rowRep w0) ARel.nil) (gl hL);refine hc.mono fun e W' ⟨he,bel⟩ => ?_;subst he;exact ⟨_,rfl,_,_,_,[],_,[],hW',trodAll_mk1 (shut_bool Tryd.underlying4 _),(trodAll_cons_mk (Below.trod laidOut (by kernel_rfl) (of_decide_eq_true (by kernel_rfl)) h0 bel lt0) trodAll_mk0),rfl,bel.frame _,fun h => by cases h⟩
/-- A world for the witness: the table holds what its initialiser lays. -/
noncomputable def laidWorld (os : Os) : World :=
 { World.holding Tryd.prog os ⟨#[],#[],[]⟩ with heap := (World.holding Tryd.prog os ⟨#[],#[],[]⟩).heap.modify nQa9 fun
   | .cells _ t frozen => .cells (tabZ.map (Value.int .u8)).toArray t frozen
   | o => o }
theorem laid_met (os : Os) : laidMet Tryd.prog Rows.maxcliqueSidesRow.laid ((laidWorld os).forCall (fun _ _ => 0) ⟨#[],#[.slice none 0 0],[]⟩).memory :=
 laidMet_of_run' 8 (by kernel_rfl) (by kernel_rfl)
theorem reads (os : Os) {H : Type} (enc : TypeId × Value -> H) : ∃ places,DataW.whole enc Tryd.prog ((laidWorld os).forCall (fun _ _ => 0) ⟨#[],#[.slice none 0 0],[]⟩).memory Tryd.f3.params.toList Rows.maxcliqueSidesSpec.vars false #[Value.slice none 0 0].toList 8 = some ([.nil],[],places) :=
 ⟨[],by kernel_rfl⟩
set_option maxRecDepth 100000 in
theorem lifted (os : Os) (started : os.Started) (H : Type) (enc : TypeId × Value -> H) (F : Stop.Interp) :
  ReturnsInHanded {} Tryd.checked os 3 .any ((OpenSpec.ofChange Rows.maxcliqueSidesSpec).preRow enc Tryd.prog Tryd.f3 Rows.maxcliqueSidesRow.domain false Rows.maxcliqueSidesRow.laid) (((OpenSpec.ofChange Rows.maxcliqueSidesSpec).at F).post enc Tryd.prog Tryd.f3 false true false false) := by
 obtain ⟨places,hx⟩ := reads os enc
 refine returnsInHanded_of_row (C := Tryd.checked) (s := OpenSpec.ofChange Rows.maxcliqueSidesSpec) own started (by kernel_rfl) Tryd.func3
  (witness_row_at (enc := enc) (C := Tryd.checked) false (laidWorld os) #[.slice none 0 0] rfl (by kernel_rfl) (by kernel_rfl) (by kernel_rfl)
   (OpenSpec.preRow_of_cond 8 hx (by kernel_rfl) (fun k hk => by cases hk) (by kernel_rfl) (laid_met os))) ?_
 intro W base args ds gs before hval hW _ _ _ hL _ _;exact contract H enc W base args ds gs before hval hW hL
theorem said : Rows.MaxcliqueSidesSaid :=
 OpenClaim.holds_of_cond 3 Tryd.f3 rfl rfl rfl rfl rfl rfl rfl ⟨rfl,rfl,rfl,rfl,rfl⟩ rfl rfl rfl rfl rfl (by kernel_rfl) Tryd.func3 (by kernel_rfl)
  (of_decide_eq_true (by kernel_rfl)) (by unfold Func.isWrapper; first | (rw [if_pos (by decide +kernel)]; kernel_rfl) | (rw [if_neg (by decide +kernel)]; exact ⟨rfl,rfl⟩))
  (fun os started H enc _ F => by rw [OpenClaim.pre_eq_preRow]; exact lifted os started H enc F)
theorem plain (f : FuncId) (fn : Func) (hf : Tryd.pinned.checked.prog.funcNamed "cohesion/cohesionlaw26.MaxcliqueSides" = some f) (hfn : Tryd.pinned.checked.prog.funcs[f]? = some fn) :
  false = Tryd.pinned.checked.prog.looks [] /\ ∀ (j : Nat) t,fn.params[j]? = some t -> Tryd.pinned.checked.prog.wantsStandIn t = false := by
 obtain rfl : f = 3 := Option.some.inj ((show Tryd.prog.funcNamed "cohesion/cohesionlaw26.MaxcliqueSides" = some 3 by kernel_rfl).symm.trans hf) |>.symm
 obtain rfl : fn = Tryd.f3 := (Option.some.inj (Tryd.func3.symm.trans hfn)).symm;refine ⟨by kernel_rfl,fun j t ht => ?_⟩;rw [Tryd.params3] at ht;have hm : t = 22 := by simpa using Array.mem_of_getElem? ht
 subst hm;exact (show Tryd.prog.wantsStandIn 22 = false by kernel_rfl)
theorem proved : Rows.MaxcliqueSidesCardSaid :=
 Claim7.holds_tied_plain_at .later [] _ _ _ _ said (fun _ h => by cases h) (by kernel_rfl) (fun _ h => by cases h) maxcliqueSides_row_tie rfl ⟨rfl,rfl⟩ (by kernel_rfl) rfl plain (by kernel_rfl)
#print axioms proved
end Go.Proofs.YtoobjomjclombaaDoor.maxcliqueSides
