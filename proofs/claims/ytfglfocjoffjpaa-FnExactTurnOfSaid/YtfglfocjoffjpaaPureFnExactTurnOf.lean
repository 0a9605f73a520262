/- What the row of FnExactTurnOf leans on: for every path of four ints the law answers true; no condition. -/
import Derived.Test.YtfglfocjoffjpaaQFnExactTurnOfx1
set_option linter.unusedVariables false
set_option linter.unusedSimpArgs false
namespace Go.Proofs.Ytfglfocjoffjpaa.Pure
open Go.RowKit Go.Proofs.Ytfglfocjoffjpaa.PFnExactTurnOf Go.Proofs.YtfglfocjoffjpaaW.PrintWords Go.Proofs.YtfglfocjoffjpaaW.PrintLast

theorem in1 (a b c : Int) : spec_l1In.f a b c = some (decide (b ≤ a ∧ a ≤ c)) := by
  unfold spec_l1In.f
  by_cases h : a ≥ b
  · rw [if_pos h]; congr 1; simp only [decide_eq_decide]; omega
  · rw [if_neg h]; congr 1; symm; simp only [decide_eq_false_iff_not]; omega

theorem inr (a b c : Int) : impl_InRange.f a b c = some (decide (b ≤ a ∧ a ≤ c)) := by
  unfold impl_InRange.f
  by_cases h : b ≤ a
  · rw [if_pos h]; congr 1; simp only [decide_eq_decide]; omega
  · rw [if_neg h]; congr 1; symm; simp only [decide_eq_false_iff_not]; omega

def isPathV (a b c d : Int) : Bool := decide (1 ≤ a ∧ a ≤ 20) && (decide (1 ≤ b ∧ b ≤ 3) && (decide (0 ≤ c ∧ c ≤ 3) && (decide (0 ≤ d ∧ d ≤ 3) && ((c == d) == (b == 2)))))
theorem sIsPath (a b c d : Int) : spec_IsPath.f a b c d = some (isPathV a b c d) := by
  unfold spec_IsPath.f isPathV
  simp only [in1, Option.bind_some]
  generalize decide (1 ≤ a ∧ a ≤ 20) = p1
  generalize decide (1 ≤ b ∧ b ≤ 3) = p2
  generalize decide (0 ≤ c ∧ c ≤ 3) = p3
  generalize decide (0 ≤ d ∧ d ≤ 3) = p4
  cases p1 <;> cases p2 <;> cases p3 <;> cases p4 <;> rfl
theorem iIsPath (a b c d : Int) : impl_IsPath.f a b c d = some (isPathV a b c d) := by
  unfold impl_IsPath.f isPathV
  simp only [inr, Option.bind_some]
  generalize decide (1 ≤ a ∧ a ≤ 20) = p1
  generalize decide (1 ≤ b ∧ b ≤ 3) = p2
  generalize decide (0 ≤ c ∧ c ≤ 3) = p3
  generalize decide (0 ≤ d ∧ d ≤ 3) = p4
  cases p1 <;> cases p2 <;> cases p3 <;> cases p4 <;> rfl
theorem isPathV_iff (a b c d : Int) : isPathV a b c d = true ↔ (1 ≤ a ∧ a ≤ 20) ∧ (1 ≤ b ∧ b ≤ 3) ∧ (0 ≤ c ∧ c ≤ 3) ∧ (0 ≤ d ∧ d ≤ 3) ∧ (c = d ↔ b = 2) := by
  unfold isPathV
  simp only [Bool.and_eq_true, decide_eq_true_eq, beq_iff_eq]
  have : ((c == d) = (b == 2)) ↔ (c = d ↔ b = 2) := by
    rw [Bool.eq_iff_iff]; simp only [beq_iff_eq]
  rw [this]

theorem w64 {x : Int} (h0 : -9223372036854775808 ≤ x) (h1 : x ≤ 9223372036854775807) : wrap64 x = x := by
  unfold wrap64; omega

theorem tmod_bd (a b : Int) (hb : 1 ≤ b) : -b < Int.tmod a b ∧ Int.tmod a b < b := by
  have h1 := Int.tmod_lt_of_pos a (show 0 < b by omega)
  have h2 := Int.lt_tmod_of_pos a (show 0 < b by omega)
  exact ⟨h2, h1⟩
/-- What both come to. -/
theorem tmod_fix (a b : Int) (hb : 1 ≤ b) : (Int.tmod (Int.tmod a b + b) b) = a % b ∧ (if Int.tmod a b < 0 then Int.tmod a b + b else Int.tmod a b) = a % b := by
  obtain ⟨h1, h2⟩ := tmod_bd a b hb
  have e1 : (Int.tmod a b) % b = a % b := by
    have := Int.tmod_add_mul_tdiv a b
    conv => rhs; rw [← this]
    rw [Int.add_mul_emod_self_left]
  constructor
  · rw [Int.tmod_eq_emod_of_nonneg (by omega), Int.add_emod_right, e1]
  · split
    · rw [← e1, ← Int.add_emod_right]
      exact (Int.emod_eq_of_lt (by omega) (by omega)).symm
    · rw [← e1]; exact (Int.emod_eq_of_lt (by omega) h2).symm

theorem sMod (a b : Int) : spec_Mod.f a b = some (if 1 ≤ b ∧ b ≤ 1000000000000 then a % b else 0) := by
  unfold spec_Mod.f
  simp only [in1, Option.bind_some, decide_eq_true_eq]
  by_cases h : 1 ≤ b ∧ b ≤ 1000000000000
  · obtain ⟨h1, h2⟩ := tmod_bd a b h.1
    rw [if_pos h, if_pos h, if_neg (by omega), w64 (by omega) (by omega), (tmod_fix a b h.1).1]
  · rw [if_neg h, if_neg h]

theorem FnExactTurnOf {a b c d : Int} (_ : (Lit.int .i64 a).wf = true) (_ : (Lit.int .i64 b).wf = true) (_ : (Lit.int .i64 c).wf = true) (_ : (Lit.int .i64 d).wf = true) : laws_FnExactTurnOf.f a b c d = some true := by
  unfold laws_FnExactTurnOf.f laws_toPath.f
  simp only [Option.bind_some]
  unfold spec_TurnOf.f impl_TurnOf.f
  rw [sIsPath, iIsPath]
  cases hp : isPathV a b c d with
  | false => simp only [Option.bind_some, Bool.false_eq_true, if_false, if_true]
  | true =>
    obtain ⟨_, _, ⟨c0, c1⟩, ⟨d0, d1⟩, _⟩ := (isPathV_iff a b c d).1 hp
    obtain rfl | rfl | rfl | rfl : c = 0 ∨ c = 1 ∨ c = 2 ∨ c = 3 := by omega
    all_goals (obtain rfl | rfl | rfl | rfl : d = 0 ∨ d = 1 ∨ d = 2 ∨ d = 3 := by omega)
    all_goals decide +kernel

end Go.Proofs.Ytfglfocjoffjpaa.Pure
