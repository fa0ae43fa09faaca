/- A call that no table knows, by its body. -/
import Derived.Test.YtikffbngaolphaaDoorRunL
namespace Go.Bm
open Go.Am
theorem callL_endA {c : Cfg} {f : Nat} {md : Md} {q : AFn} {args : List AV} {H : Heap} (ho : orcA c f args H = none) (hf : c.fn f = some (md, q)) (hl : args.length ≤ q.n) : callL c f args H = endL c md q H.length (codeL c H.length q.body ⟨mkEnv 0 args, H⟩) := by
  unfold callL callW
  simp only [ho, hf, hl, if_true]
  generalize codeL c H.length q.body ⟨mkEnv 0 args, H⟩ = z
  cases z with
  | none => rfl
  | some w =>
    obtain ⟨e, s⟩ := w
    cases e <;> rfl
end Go.Bm
