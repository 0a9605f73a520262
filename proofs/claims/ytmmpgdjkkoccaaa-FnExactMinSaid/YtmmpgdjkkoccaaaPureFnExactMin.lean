/- The row of FnExactMin: for every two whole numbers the law answers true; no condition. -/
import Derived.Test.YtmmpgdjkkoccaaaPFnExactMinx1
set_option linter.unusedVariables false
set_option linter.unusedSimpArgs false
namespace Go.Proofs.Ytmmpgdjkkoccaaa.Pure
open Go.RowKit Go.Proofs.Ytmmpgdjkkoccaaa.PFnExactMin Go.Proofs.YtmmpgdjkkoccaaaW.PrintWords Go.Proofs.YtmmpgdjkkoccaaaW.PrintLast

theorem FnExactMin : laws_FnExactMin.Pure := by
  intro a b _ _
  unfold laws_FnExactMin.f spec_Min.f impl_Min.f
  by_cases h : b < a
  · rw [if_pos h]; simp only [Option.bind_some]; rw [if_pos (by first | (unfold mx; omega) | (unfold mn; omega))]
  · rw [if_neg h]; simp only [Option.bind_some]; rw [if_pos (by first | (unfold mx; omega) | (unfold mn; omega))]

end Go.Proofs.Ytmmpgdjkkoccaaa.Pure
