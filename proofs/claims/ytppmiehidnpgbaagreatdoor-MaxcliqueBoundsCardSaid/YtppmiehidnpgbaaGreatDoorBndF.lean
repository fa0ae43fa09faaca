/- The law MaxcliqueBounds returns true at every input, and leaves its arguments as they read. No condition but the card's own: the table of math/bits starts as the program's text lays it. -/
import Derived.Test.YtppmiehidnpgbaaGreatDoorCards
import Derived.Test.YtppmiehidnpgbaaGreatDoorTie
import Derived.Test.YtppmiehidnpgbaaGreatDoorMbL
import Derived.Test.YtppmiehidnpgbaaGreatDoorInpV
import Derived.WalkKit
import Derived.ProofKit
import Derived.OpenShut
import Derived.Deep.DeepHandedRow
import Derived.Lib.LaidTab
open Option.some renaming inj → dn
namespace Go.Proofs.YtppmiehidnpgbaaGreatDoor.maxcliqueBounds
open Go.ChangeShapes Go.WideShapes Go.ChangeAt Go.RowKit
open Go.Am Go.Bm Go.BmP
set_option linter.unusedVariables false
theorem own : ownKnob Tryz.prog.godebug = none := by kernel_rfl
theorem laidOut : laidOutB Tryz.prog = true := by kernel_rfl
set_option maxRecDepth 100000 in
theorem opened {H : Type} {enc : TypeId × Value -> H} {W : World} {v : Value} {d : DataW H} {p : List MemPlace} {base : Nat}
  (hv : Value.okWide Tryz.prog W .any base 22 v) (h : DataW.Trod enc Tryz.prog W 0 (fun _ => true) true 22 v d p) :
  ∃ a len cap zs,v = .slice a len cap /\ aeN .i64 W a len cap zs /\ ∀ x ∈ p,x.block < W.heap.size := by
 obtain ⟨a0,len0,cap0,rfl⟩ := okWide_slice Tryz.underlying22 hv;have k0 := h;have lt0 : ∀ x ∈ p,x.block < W.heap.size := by obtain ⟨m,hm⟩ := k0; exact DataW.trod_lt m _ _ _ hm
 obtain ⟨fuel,hf⟩ := h;rcases open_ints Tryz.underlying22 Tryz.underlying3 (by kernel_rfl) hf with ⟨dP,hx⟩ | ⟨x,l,c,zs,dP,_,hl,hm,hz,hx,mq,hwz⟩
 ·simp [Value.cells] at dP;obtain ⟨rfl,rfl,rfl⟩ := dP;cases hx;exact ⟨none,0,0,[],rfl,.inl ⟨rfl,rfl,rfl,rfl⟩,lt0⟩
 ·simp [Value.cells] at dP;obtain ⟨rfl,rfl,rfl⟩ := dP;cases hx;refine ⟨_,_,_,zs,rfl,.inr ⟨_,rfl,hl,hm,by simpa using hz,mq,hwz⟩,lt0⟩
theorem gQc2 : Tryz.prog.globalNamed "math/bits.deBruijn64tab" = some YJ := by kernel_rfl
theorem ZK : (Tryz.prog.globals[YJ]?).map (·.type) = some 76 := by kernel_rfl
theorem ag4 : Tryz.prog.cellsOf 76 = 64 := by kernel_rfl
theorem ag5 : Tryz.prog.cellsOf 5 = 1 := by kernel_rfl
theorem table {W : World} (h : laidMetH Tryz.prog Rows.maxcliqueBoundsRow.laid W) : Lib.TabIs Tryz.prog W "math/bits.deBruijn64tab" .u8 Mb :=
 Lib.tabIs_of_head (rest := []) gQc2 ZK Tryz.underlying76 Tryz.underlying5 ag5 ag4 h
theorem gl {W : World} (h : laidMetH Tryz.prog Rows.maxcliqueBoundsRow.laid W) : Am.dZ (iO au) (fun _ => False) [] W :=
 ZI (g0 := YJ) (k := .u8) (zs := Mb) (fun g => rfl) fun i hi => ((table h).cell gQc2 i hi).trans (by rw [List.getD_eq_getElem?_getD,List.getElem?_eq_getElem hi]; rfl)
set_option maxRecDepth 100000 in
theorem Z2 (H : Type) (enc : TypeId × Value -> H) (W : World) (base : Nat) (args : Array Value) (ds gs : List (DataW H)) (before : List MemPlace)
  (hval : ∀ (j : Nat) t v,Tryz.f3.params[j]? = some t -> args[j]? = some v -> Value.okWide Tryz.prog W .any base t v)
  (hW : DataW.Whole enc Tryz.prog Tryz.f3.params.toList Rows.maxcliqueBoundsSpec.vars false W args.toList ds gs before) (hL : laidMetH Tryz.prog Rows.maxcliqueBoundsRow.laid W) :
  Calls Tryz.prog 3 args W fun e W' => ∃ v,e = .returned v /\ Rows.maxcliqueBoundsSpec.post enc Tryz.prog Tryz.f3 false true false false W args v W' := by
 have hW' := hW;obtain ⟨p,q,hA0,hV,rfl,zK,hnd⟩ := hW;have hA : DataW.TrodAll enc Tryz.prog W 0 (fun _ => true) true Tryz.f3.params.toList args.toList ds p := hA0;rw [Tryz.params3] at hA hval;obtain ⟨v0,vs0,d0,ds0,p0,q0,lN,rfl,rfl,h0,r0⟩ := trodAll_cons hA;obtain ⟨rfl,rfl,rfl⟩ := trodAll_nil r0;obtain rfl : args = #[v0] := by cases args; simp_all
 obtain ⟨rfl,rfl⟩ := trodVars_none hV;obtain ⟨a0,l0,c0,z0,rfl,w0,lt0⟩ := opened (hval 0 22 v0 rfl rfl) h0;clear hA0;simp only [List.append_nil] at hW';have hc := OA ag3 acG acF (show au.fn nQa = _ from sQa) rfl (M6 (z0.take l0)) rfl (sJ.cons (ae0 w0) sJ.nil) (gl hL);refine hc.mono fun e W' ⟨he,bel⟩ => ?_;subst he;exact ⟨_,rfl,_,_,_,[],_,[],hW',trodAll_mk1 (shut_bool Tryz.underlying4 _),(trodAll_cons_mk (Below.trod laidOut (by kernel_rfl) (of_decide_eq_true (by kernel_rfl)) h0 bel lt0) trodAll_mk0),rfl,bel.frame _,fun h => by cases h⟩
/-- A world for the witness: the table holds what its initialiser lays. -/
noncomputable def AY (os : Os) : World :=
 { World.holding Tryz.prog os ⟨#[],#[],[]⟩ with heap := (World.holding Tryz.prog os ⟨#[],#[],[]⟩).heap.modify YJ fun
   | .cells _ t frozen => .cells (Mb.map (Value.int .u8)).toArray t frozen
   | o => o }
theorem Y6 (os : Os) : laidMet Tryz.prog Rows.maxcliqueBoundsRow.laid ((AY os).forCall (fun _ _ => 0) ⟨#[],#[.slice none 0 0],[]⟩).memory :=
 laidMet_of_run' 8 (by kernel_rfl) (by kernel_rfl)
theorem reads (os : Os) {H : Type} (enc : TypeId × Value -> H) : ∃ places,DataW.whole enc Tryz.prog ((AY os).forCall (fun _ _ => 0) ⟨#[],#[.slice none 0 0],[]⟩).memory Tryz.f3.params.toList Rows.maxcliqueBoundsSpec.vars false #[Value.slice none 0 0].toList 8 = some ([.nil],[],places) :=
 ⟨[],by kernel_rfl⟩
set_option maxRecDepth 100000 in
theorem lifted (os : Os) (started : os.Started) (H : Type) (enc : TypeId × Value -> H) (F : Stop.Interp) :
  ReturnsInHanded {} Tryz.checked os 3 .any ((OpenSpec.ofChange Rows.maxcliqueBoundsSpec).preRow enc Tryz.prog Tryz.f3 Rows.maxcliqueBoundsRow.domain false Rows.maxcliqueBoundsRow.laid) (((OpenSpec.ofChange Rows.maxcliqueBoundsSpec).at F).post enc Tryz.prog Tryz.f3 false true false false) := by
 obtain ⟨places,hx⟩ := reads os enc
 refine returnsInHanded_of_row (C := Tryz.checked) (s := OpenSpec.ofChange Rows.maxcliqueBoundsSpec) own started (by kernel_rfl) Tryz.func3
  (witness_row_at (enc := enc) (C := Tryz.checked) false (AY os) #[.slice none 0 0] rfl (by kernel_rfl) (by kernel_rfl) (by kernel_rfl)
   (OpenSpec.preRow_of_cond 8 hx (by kernel_rfl) (fun k hk => by cases hk) (by kernel_rfl) (Y6 os))) ?_
 intro W base args ds gs before hval hW _ _ _ hL _ _;exact Z2 H enc W base args ds gs before hval hW hL
theorem said : Rows.MaxcliqueBoundsSaid :=
 OpenClaim.holds_of_cond 3 Tryz.f3 rfl rfl rfl rfl rfl rfl rfl ⟨rfl,rfl,rfl,rfl,rfl⟩ rfl rfl rfl rfl rfl (by kernel_rfl) Tryz.func3 (by kernel_rfl)
  (of_decide_eq_true (by kernel_rfl)) (by unfold Func.isWrapper; first | (rw [if_pos (by decide +kernel)]; kernel_rfl) | (rw [if_neg (by decide +kernel)]; exact ⟨rfl,rfl⟩))
  (fun os started H enc _ F => by rw [OpenClaim.pre_eq_preRow]; exact lifted os started H enc F)
theorem plain (f : FuncId) (fn : Func) (hf : Tryz.pinned.checked.prog.funcNamed "cohesion/cohesionlaw26.MaxcliqueBounds" = some f) (hfn : Tryz.pinned.checked.prog.funcs[f]? = some fn) :
  false = Tryz.pinned.checked.prog.looks [] /\ ∀ (j : Nat) t,fn.params[j]? = some t -> Tryz.pinned.checked.prog.wantsStandIn t = false := by
 obtain rfl : f = 3 := dn ((show Tryz.prog.funcNamed "cohesion/cohesionlaw26.MaxcliqueBounds" = some 3 by kernel_rfl).symm.trans hf) |>.symm
 obtain rfl : fn = Tryz.f3 := (dn (Tryz.func3.symm.trans hfn)).symm;refine ⟨by kernel_rfl,fun j t ht => ?_⟩;rw [Tryz.params3] at ht;have hm : t = 22 := by simpa using Array.mem_of_getElem? ht
 subst hm;exact (show Tryz.prog.wantsStandIn 22 = false by kernel_rfl)
theorem proved : Rows.MaxcliqueBoundsCardSaid :=
 Claim7.holds_tied_plain_at .later [] _ _ _ _ said (fun _ h => by cases h) (by kernel_rfl) (fun _ h => by cases h) maxcliqueBounds_row_tie rfl ⟨rfl,rfl⟩ (by kernel_rfl) rfl plain (by kernel_rfl)
#print axioms proved
end Go.Proofs.YtppmiehidnpgbaaGreatDoor.maxcliqueBounds
