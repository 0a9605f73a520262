/- What the row of FnExactClearOf leans on: for every four whole numbers of 64 bits the law answers true; no condition. -/
import Derived.Test.YtmmpgdjkkoccaaaPFnExactClearOfx1
set_option linter.unusedVariables false
set_option linter.unusedSimpArgs false
namespace Go.Proofs.Ytmmpgdjkkoccaaa.Pure
open Go.RowKit Go.Proofs.Ytmmpgdjkkoccaaa.PFnExactClearOf Go.Proofs.YtmmpgdjkkoccaaaW.PrintWords Go.Proofs.YtmmpgdjkkoccaaaW.PrintLast

theorem in1 (a b c : Int) : spec_l1In.f a b c = some (decide (b ≤ a ∧ a ≤ c)) := by
  unfold spec_l1In.f
  by_cases h : a ≥ b
  · rw [if_pos h]; congr 1; simp only [decide_eq_decide]; omega
  · rw [if_neg h]; congr 1; symm; simp only [decide_eq_false_iff_not]; omega

theorem inr (a b c : Int) : impl_InRange.f a b c = some (decide (b ≤ a ∧ a ≤ c)) := by
  unfold impl_InRange.f
  by_cases h : b ≤ a
  · rw [if_pos h]; congr 1; simp only [decide_eq_decide]; omega
  · rw [if_neg h]; congr 1; symm; simp only [decide_eq_false_iff_not]; omega

def isPathV (a b c d : Int) : Bool := decide (1 ≤ a ∧ a ≤ 20) && (decide (1 ≤ b ∧ b ≤ 3) && (decide (0 ≤ c ∧ c ≤ 3) && (decide (0 ≤ d ∧ d ≤ 3) && ((c == d) == (b == 2)))))
theorem sIsPath (a b c d : Int) : spec_IsPath.f a b c d = some (isPathV a b c d) := by
  unfold spec_IsPath.f isPathV
  simp only [in1, Option.bind_some]
  generalize decide (1 ≤ a ∧ a ≤ 20) = p1
  generalize decide (1 ≤ b ∧ b ≤ 3) = p2
  generalize decide (0 ≤ c ∧ c ≤ 3) = p3
  generalize decide (0 ≤ d ∧ d ≤ 3) = p4
  cases p1 <;> cases p2 <;> cases p3 <;> cases p4 <;> rfl
theorem iIsPath (a b c d : Int) : impl_IsPath.f a b c d = some (isPathV a b c d) := by
  unfold impl_IsPath.f isPathV
  simp only [inr, Option.bind_some]
  generalize decide (1 ≤ a ∧ a ≤ 20) = p1
  generalize decide (1 ≤ b ∧ b ≤ 3) = p2
  generalize decide (0 ≤ c ∧ c ≤ 3) = p3
  generalize decide (0 ≤ d ∧ d ≤ 3) = p4
  cases p1 <;> cases p2 <;> cases p3 <;> cases p4 <;> rfl
theorem isPathV_iff (a b c d : Int) : isPathV a b c d = true ↔ (1 ≤ a ∧ a ≤ 20) ∧ (1 ≤ b ∧ b ≤ 3) ∧ (0 ≤ c ∧ c ≤ 3) ∧ (0 ≤ d ∧ d ≤ 3) ∧ (c = d ↔ b = 2) := by
  unfold isPathV
  simp only [Bool.and_eq_true, decide_eq_true_eq, beq_iff_eq]
  have : ((c == d) = (b == 2)) ↔ (c = d ↔ b = 2) := by
    rw [Bool.eq_iff_iff]; simp only [beq_iff_eq]
  rw [this]

def clearV (a b c d : Int) : Int := if isPathV a b c d = true then (if b = 1 then 2 else if b = 3 then 3 else 5) else 0
theorem iClearOf (a b c d : Int) : impl_ClearOf.f a b c d = some (clearV a b c d) := by
  unfold impl_ClearOf.f clearV
  rw [iIsPath, Option.bind_some]
  split
  · split
    · rfl
    · split <;> rfl
  · rfl
theorem sClearOf (a b c d : Int) : spec_ClearOf.f a b c d = some (clearV a b c d) := by
  unfold spec_ClearOf.f clearV
  rw [sIsPath, Option.bind_some]
  split
  · rename_i h
    obtain ⟨_, ⟨b1, b3⟩, _⟩ := (isPathV_iff a b c d).1 h
    rw [Option.bind_some, if_pos (by omega), if_pos (by simp; omega)]
    obtain rfl | rfl | rfl : b = 1 ∨ b = 2 ∨ b = 3 := by omega
    · rfl
    · rfl
    · rfl
  · rfl

theorem FnExactClearOf {a b c d : Int} (_ : (Lit.int .i64 a).wf = true) (_ : (Lit.int .i64 b).wf = true) (_ : (Lit.int .i64 c).wf = true) (_ : (Lit.int .i64 d).wf = true) : laws_FnExactClearOf.f a b c d = some true := by
  unfold laws_FnExactClearOf.f laws_toPath.f
  simp only [Option.bind_some, sClearOf, iClearOf, if_true]

end Go.Proofs.Ytmmpgdjkkoccaaa.Pure
