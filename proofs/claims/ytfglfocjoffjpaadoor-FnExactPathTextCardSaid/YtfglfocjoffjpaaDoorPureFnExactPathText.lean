/- What the row of FnExactPathText leans on: for every path of four ints the law answers true; no condition. -/
import Derived.Test.YtfglfocjoffjpaaDoorQFnExactPathTextx2
set_option linter.unusedVariables false
set_option linter.unusedSimpArgs false
namespace Go.Proofs.YtfglfocjoffjpaaDoor.Pure
open Go.RowKit Go.Proofs.YtfglfocjoffjpaaDoor.PFnExactPathText Go.Proofs.YtfglfocjoffjpaaDoorW.PrintWords Go.Proofs.YtfglfocjoffjpaaDoorW.PrintLast

theorem in1 (a b c : Int) : spec_l1In.f a b c = some (decide (b ≤ a ∧ a ≤ c)) := by
  unfold spec_l1In.f
  by_cases h : a ≥ b
  · rw [if_pos h]; congr 1; simp only [decide_eq_decide]; omega
  · rw [if_neg h]; congr 1; symm; simp only [decide_eq_false_iff_not]; omega

theorem inr (a b c : Int) : impl_InRange.f a b c = some (decide (b ≤ a ∧ a ≤ c)) := by
  unfold impl_InRange.f
  by_cases h : b ≤ a
  · rw [if_pos h]; congr 1; simp only [decide_eq_decide]; omega
  · rw [if_neg h]; congr 1; symm; simp only [decide_eq_false_iff_not]; omega

def isPathV (a b c d : Int) : Bool := decide (1 ≤ a ∧ a ≤ 20) && (decide (1 ≤ b ∧ b ≤ 3) && (decide (0 ≤ c ∧ c ≤ 3) && (decide (0 ≤ d ∧ d ≤ 3) && ((c == d) == (b == 2)))))
theorem sIsPath (a b c d : Int) : spec_IsPath.f a b c d = some (isPathV a b c d) := by
  unfold spec_IsPath.f isPathV
  simp only [in1, Option.bind_some]
  generalize decide (1 ≤ a ∧ a ≤ 20) = p1
  generalize decide (1 ≤ b ∧ b ≤ 3) = p2
  generalize decide (0 ≤ c ∧ c ≤ 3) = p3
  generalize decide (0 ≤ d ∧ d ≤ 3) = p4
  cases p1 <;> cases p2 <;> cases p3 <;> cases p4 <;> rfl
theorem iIsPath (a b c d : Int) : impl_IsPath.f a b c d = some (isPathV a b c d) := by
  unfold impl_IsPath.f isPathV
  simp only [inr, Option.bind_some]
  generalize decide (1 ≤ a ∧ a ≤ 20) = p1
  generalize decide (1 ≤ b ∧ b ≤ 3) = p2
  generalize decide (0 ≤ c ∧ c ≤ 3) = p3
  generalize decide (0 ≤ d ∧ d ≤ 3) = p4
  cases p1 <;> cases p2 <;> cases p3 <;> cases p4 <;> rfl
theorem isPathV_iff (a b c d : Int) : isPathV a b c d = true ↔ (1 ≤ a ∧ a ≤ 20) ∧ (1 ≤ b ∧ b ≤ 3) ∧ (0 ≤ c ∧ c ≤ 3) ∧ (0 ≤ d ∧ d ≤ 3) ∧ (c = d ↔ b = 2) := by
  unfold isPathV
  simp only [Bool.and_eq_true, decide_eq_true_eq, beq_iff_eq]
  have : ((c == d) = (b == 2)) ↔ (c = d ↔ b = 2) := by
    rw [Bool.eq_iff_iff]; simp only [beq_iff_eq]
  rw [this]

def ptOne (a b c d : Int) : Bool := if isPathV a b c d = true then decide (laws_FnExactPathText.f 12 a b c d = some true) else true
theorem pt_all : ∀ (a : Fin 20) (b : Fin 3) (c d : Fin 4), ptOne ((a.val : Int) + 1) ((b.val : Int) + 1) (c.val : Int) (d.val : Int) = true := by decide +kernel
theorem FnExactPathText {a b c d : Int} (_ : (Lit.int .i64 a).wf = true) (_ : (Lit.int .i64 b).wf = true) (_ : (Lit.int .i64 c).wf = true) (_ : (Lit.int .i64 d).wf = true) : ∃ k, laws_FnExactPathText.f k a b c d = some true := by
  refine ⟨12, ?_⟩
  cases hp : isPathV a b c d with
  | false =>
    unfold laws_FnExactPathText.f laws_toPath.f spec_PathText.f impl_PathText.f
    simp only [Option.bind_some, sIsPath, iIsPath, hp, Bool.false_eq_true, if_false, if_true]
  | true =>
    obtain ⟨⟨a0, a1⟩, ⟨b0, b1⟩, ⟨c0, c1⟩, ⟨d0, d1⟩, _⟩ := (isPathV_iff a b c d).1 hp
    obtain ⟨a', rfl⟩ := Int.eq_ofNat_of_zero_le (show 0 ≤ a by omega)
    obtain ⟨b', rfl⟩ := Int.eq_ofNat_of_zero_le (show 0 ≤ b by omega)
    obtain ⟨c, rfl⟩ := Int.eq_ofNat_of_zero_le c0
    obtain ⟨d, rfl⟩ := Int.eq_ofNat_of_zero_le d0
    have h := pt_all ⟨a' - 1, by omega⟩ ⟨b' - 1, by omega⟩ ⟨c, by omega⟩ ⟨d, by omega⟩
    simp only at h
    rw [show ((a' - 1 : Nat) : Int) + 1 = (a' : Int) by omega, show ((b' - 1 : Nat) : Int) + 1 = (b' : Int) by omega] at h
    unfold ptOne at h
    rw [if_pos hp, decide_eq_true_eq] at h
    exact h

end Go.Proofs.YtfglfocjoffjpaaDoor.Pure
