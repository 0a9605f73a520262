/- The row of FnExactConflict: whatever the arguments (that fit into memory), the law answers true and they read as they did. No condition. -/
import Derived.Test.YtepicmocmioiiaaRows
import Derived.Test.YtepicmocmioiiaaPFnExactConflictx5
import Derived.Test.YtepicmocmioiiaaPureFnExactConflict
import Derived.Test.YtepicmocmioiiaaOpen
import Derived.WalkKit
import Derived.ProofKit
import Derived.OpenShut
import Derived.ShutString
import Derived.ChangeOld
import Derived.Below
import Derived.SizedLaws
namespace Go.Proofs.Ytepicmocmioiiaa.fnExactConflict
open Go.ChangeShapes Go.WideShapes Go.ChangeAt Go.RowKit Go.Proofs.Ytepicmocmioiiaa.PFnExactConflict Go.Proofs.YtepicmocmioiiaaW.PrintWords
set_option linter.unusedVariables false
set_option linter.unusedSimpArgs false
theorem own : ownKnob Try.prog.godebug = none := by kernel_rfl
theorem laidOut : laidOutB Try.prog = true := by kernel_rfl
set_option maxRecDepth 100000 in
theorem lifted (os : Os) (started : os.Started) (H : Type) (enc : TypeId × Value → H) :
    ReturnsInHanded {} Try.checked os 9 .any (Rows.fnExactConflictSpec.pre6 enc Try.prog Try.f9 Rows.fnExactConflictRow.domain false) (Rows.fnExactConflictSpec.post enc Try.prog Try.f9 false true false false) := by
  refine returnsInHanded_of_change_sized (C := Try.checked) own started (by kernel_rfl) Try.func9
    (ChangeSpec.witness6 (enc := enc) (C := Try.checked) false ⟨#[], #[.agg #[.int .i64 0, .int .i64 0, .int .i64 0, .int .i64 0], .agg #[.int .i64 0, .int .i64 0, .int .i64 0, .int .i64 0]], []⟩ 8 (by kernel_rfl) (by kernel_rfl) (by kernel_rfl) (by kernel_rfl)) ?_
  intro W base args ds gs before hval0 hW hcnd hsz0 _
  have hsz : (DataW.weightsEach Try.prog (Try.f9.params.toList ++ Rows.fnExactConflictSpec.plain.varTypes Try.prog) (ds ++ gs)).all (· ≤ reachBytes) = true := hsz0
  have hval : ∀ (j : Nat) t v, Try.f9.params[j]? = some t → args[j]? = some v → Value.okWide Try.prog W .any base t v := hval0
  have hW' := hW
  obtain ⟨p, q, hA0, hV, rfl, hfz, hnd⟩ := hW
  have hA : DataW.TrodAll enc Try.prog W 0 (fun _ => true) true Try.f9.params.toList args.toList ds p := hA0
  rw [Try.params9] at hA hval hsz
  obtain ⟨v0, vs0, d0, ds0, p0, q0, hargs, rfl, rfl, h0, r0⟩ := trodAll_cons hA
  obtain ⟨v1, vs1, d1, ds1, p1, q1, rfl, rfl, rfl, h1, r1⟩ := trodAll_cons r0
  obtain ⟨rfl, rfl, rfl⟩ := trodAll_nil r1
  obtain rfl : args = #[v0, v1] := by cases args; simp_all
  obtain ⟨rfl, rfl⟩ := trodVars_none hV
  obtain ⟨c0_0, c1_0, c2_0, c3_0, y0_0, y1_0, y2_0, y3_0, m0, rfl, rfl, rfl, z0_0, z1_0, z2_0, z3_0⟩ := Go.Joins.open_agg4 Try.underlying48 (by kernel_rfl) (by kernel_rfl) (hval 0 48 v0 rfl rfl) h0
  obtain ⟨a0_0, e0_0, rfl, w0_0⟩ := DataW.trod_int Try.underlying3 z0_0
  simp at e0_0
  subst e0_0
  obtain ⟨a0_1, e1_0, rfl, w0_1⟩ := DataW.trod_int Try.underlying3 z1_0
  simp at e1_0
  subst e1_0
  obtain ⟨a0_2, e2_0, rfl, w0_2⟩ := DataW.trod_int Try.underlying3 z2_0
  simp at e2_0
  subst e2_0
  obtain ⟨a0_3, e3_0, rfl, w0_3⟩ := DataW.trod_int Try.underlying3 z3_0
  simp at e3_0
  subst e3_0
  have s0 : ∀ (W' : World) (sp : Nat → Bool), DataW.Trod enc Try.prog W' 0 sp true 48 (.agg #[.int .i64 a0_0, .int .i64 a0_1, .int .i64 a0_2, .int .i64 a0_3]) (.agg [.lit (.int .i64 a0_0), .lit (.int .i64 a0_1), .lit (.int .i64 a0_2), .lit (.int .i64 a0_3)]) [] := fun W' sp => Go.Joins.shut_agg4 (y0 := (.lit (.int .i64 a0_0), [])) (y1 := (.lit (.int .i64 a0_1), [])) (y2 := (.lit (.int .i64 a0_2), [])) (y3 := (.lit (.int .i64 a0_3), [])) Try.underlying48 (by kernel_rfl) (by kernel_rfl) ⟨1, by simp [DataW.trod, Try.underlying3, w0_0]⟩ ⟨1, by simp [DataW.trod, Try.underlying3, w0_1]⟩ ⟨1, by simp [DataW.trod, Try.underlying3, w0_2]⟩ ⟨1, by simp [DataW.trod, Try.underlying3, w0_3]⟩
  obtain ⟨c0_1, c1_1, c2_1, c3_1, y0_1, y1_1, y2_1, y3_1, m1, rfl, rfl, rfl, z0_1, z1_1, z2_1, z3_1⟩ := Go.Joins.open_agg4 Try.underlying48 (by kernel_rfl) (by kernel_rfl) (hval 1 48 v1 rfl rfl) h1
  obtain ⟨a1_0, e0_1, rfl, w1_0⟩ := DataW.trod_int Try.underlying3 z0_1
  simp at e0_1
  subst e0_1
  obtain ⟨a1_1, e1_1, rfl, w1_1⟩ := DataW.trod_int Try.underlying3 z1_1
  simp at e1_1
  subst e1_1
  obtain ⟨a1_2, e2_1, rfl, w1_2⟩ := DataW.trod_int Try.underlying3 z2_1
  simp at e2_1
  subst e2_1
  obtain ⟨a1_3, e3_1, rfl, w1_3⟩ := DataW.trod_int Try.underlying3 z3_1
  simp at e3_1
  subst e3_1
  have s1 : ∀ (W' : World) (sp : Nat → Bool), DataW.Trod enc Try.prog W' 0 sp true 48 (.agg #[.int .i64 a1_0, .int .i64 a1_1, .int .i64 a1_2, .int .i64 a1_3]) (.agg [.lit (.int .i64 a1_0), .lit (.int .i64 a1_1), .lit (.int .i64 a1_2), .lit (.int .i64 a1_3)]) [] := fun W' sp => Go.Joins.shut_agg4 (y0 := (.lit (.int .i64 a1_0), [])) (y1 := (.lit (.int .i64 a1_1), [])) (y2 := (.lit (.int .i64 a1_2), [])) (y3 := (.lit (.int .i64 a1_3), [])) Try.underlying48 (by kernel_rfl) (by kernel_rfl) ⟨1, by simp [DataW.trod, Try.underlying3, w1_0]⟩ ⟨1, by simp [DataW.trod, Try.underlying3, w1_1]⟩ ⟨1, by simp [DataW.trod, Try.underlying3, w1_2]⟩ ⟨1, by simp [DataW.trod, Try.underlying3, w1_3]⟩
  clear hA0 hval0 hsz0 hsz
  simp only [List.append_nil] at hW'
  obtain ⟨kk, hk⟩ := Pure.FnExactConflict w0_0 w0_1 w0_2 w0_3 w1_0 w1_1 w1_2 w1_3
  have cal := laws_FnExactConflict.calls (r := true) (w := W)  (h := hk)
  refine cal.mono fun e W' ⟨he, bel⟩ => ?_
  subst he
  exact ⟨_, rfl, _, _, _, [], _, [], hW', trodAll_mk1 (shut_bool Try.underlying4 _), (trodAll_cons_mk (s0 _ _) (trodAll_cons_mk (s1 _ _) trodAll_mk0)), rfl, bel.frame _, fun h => by cases h⟩
theorem over : Rows.fnExactConflictRow.holds Try.pinned (OpenSpec.ofChange Rows.fnExactConflictSpec) :=
  OpenClaim.holds_of_wide 9 Try.f9 rfl rfl rfl rfl rfl rfl rfl ⟨rfl, rfl, rfl, rfl, rfl⟩ rfl rfl rfl rfl rfl (by kernel_rfl) Try.func9 (by kernel_rfl)
    (of_decide_eq_true (by kernel_rfl)) (by unfold Func.isWrapper; first | (rw [if_pos (by decide +kernel)]; kernel_rfl) | (rw [if_neg (by decide +kernel)]; exact ⟨rfl, rfl⟩))
    (fun os started H enc _ => lifted os started H enc)
theorem proved : Rows.FnExactConflictSaid := over
#print axioms proved
end Go.Proofs.Ytepicmocmioiiaa.fnExactConflict
namespace Go.Proofs.Ytepicmocmioiiaa
/-- The row, under a short name, for the claim. -/
theorem fnExactConflict_holds : Rows.FnExactConflictSaid := fnExactConflict.proved
end Go.Proofs.Ytepicmocmioiiaa
