/- The row of FnExactOutPlace: for every whole number the law answers true; no condition. -/
import Derived.Test.YtmmpgdjkkoccaaaPFnExactOutPlacex1
set_option linter.unusedVariables false
set_option linter.unusedSimpArgs false
namespace Go.Proofs.Ytmmpgdjkkoccaaa.Pure
open Go.RowKit Go.Proofs.Ytmmpgdjkkoccaaa.PFnExactOutPlace Go.Proofs.YtmmpgdjkkoccaaaW.PrintWords Go.Proofs.YtmmpgdjkkoccaaaW.PrintLast

theorem in1 (a b c : Int) : spec_l1In.f a b c = some (decide (b ≤ a ∧ a ≤ c)) := by
  unfold spec_l1In.f
  by_cases h : a ≥ b
  · rw [if_pos h]; congr 1; simp only [decide_eq_decide]; omega
  · rw [if_neg h]; congr 1; symm; simp only [decide_eq_false_iff_not]; omega

theorem inr (a b c : Int) : impl_InRange.f a b c = some (decide (b ≤ a ∧ a ≤ c)) := by
  unfold impl_InRange.f
  by_cases h : b ≤ a
  · rw [if_pos h]; congr 1; simp only [decide_eq_decide]; omega
  · rw [if_neg h]; congr 1; symm; simp only [decide_eq_false_iff_not]; omega

theorem FnExactOutPlace : laws_FnExactOutPlace.Pure := by
  intro a _
  unfold laws_FnExactOutPlace.f spec_OutPlace.f impl_OutPlace.f
  simp only [in1, inr, Option.bind_some, decide_eq_true_eq]
  split <;> simp

end Go.Proofs.Ytmmpgdjkkoccaaa.Pure
