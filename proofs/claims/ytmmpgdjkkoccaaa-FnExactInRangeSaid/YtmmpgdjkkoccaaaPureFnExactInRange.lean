/- The row of FnExactInRange: for all three whole numbers the law answers true; no condition. -/
import Derived.Test.YtmmpgdjkkoccaaaPFnExactInRangex1
set_option linter.unusedVariables false
set_option linter.unusedSimpArgs false
namespace Go.Proofs.Ytmmpgdjkkoccaaa.Pure
open Go.RowKit Go.Proofs.Ytmmpgdjkkoccaaa.PFnExactInRange Go.Proofs.YtmmpgdjkkoccaaaW.PrintWords Go.Proofs.YtmmpgdjkkoccaaaW.PrintLast

theorem FnExactInRange : laws_FnExactInRange.Pure := by
  intro a b c _ _ _
  unfold laws_FnExactInRange.f spec_InRange.f impl_InRange.f
  by_cases h : b ≤ a <;> simp [h, GE.ge]

end Go.Proofs.Ytmmpgdjkkoccaaa.Pure
