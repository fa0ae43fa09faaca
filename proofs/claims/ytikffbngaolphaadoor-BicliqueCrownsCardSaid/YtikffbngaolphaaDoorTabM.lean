/- A table of calls over a configuration that knows calls already. -/
import Derived.Test.YtikffbngaolphaaDoorRunT
namespace Go.Bm
open Go.Am
def withTab2 (c : Cfg) (T : List Fact) : Cfg := { c with orc := fun f => some fun args H => match tabO T f args H with
  | some x => some x
  | none => orcA c f args H }
theorem withTab2_ok {P : Program} {c : Cfg} {T : List Fact} (h : CfgOKB P c) : CfgOKB P (withTab2 c T) := ⟨h.mixed, h.fn⟩
theorem withTab2_orc {P : Program} {c : Cfg} (hok : CfgOKB P c) (hinp : InpOK P c) (horc : OrcOKB P c) {T : List Fact} (hT : FactsOK c T) : OrcOKB P (withTab2 c T) := by
  intro f g md q ho hf args H r H' hsh hg hall X φ w B vargs hl hs hgl
  simp only [withTab2, Option.some.injEq] at ho
  subst ho
  replace hg : (match tabO T f args H with | some x => some x | none => orcA c f args H) = some (r, H') := hg
  have hc : callL c f args H = some (r, H') := by
    cases e : tabO T f args H with
    | some x =>
      rw [e] at hg
      rw [← hg]
      exact tabO_ok hT e
    | none =>
      rw [e] at hg
      replace hg : orcA c f args H = some (r, H') := hg
      unfold callL callW
      rw [hg]
  obtain ⟨n, hn⟩ := callL_iff.1 hc
  exact callsB hok hinp horc n f md q hf args H r H' hsh hn hall X φ w B vargs hl hs hgl
#print axioms withTab2_orc
end Go.Bm
