/- The row of FnExactStagesOf: whatever the arguments (that fit into memory), the law answers true and they read as they did. No condition. -/
import Derived.Test.YtldmhlpfkclclaaRows
import Derived.Test.YtldmhlpfkclclaaQFnExactStagesOfx15
import Derived.Test.YtldmhlpfkclclaaPureFnExactStagesOf
import Derived.Test.YtldmhlpfkclclaaVFnExactStagesOfOpen
import Derived.WalkKit
import Derived.ProofKit
import Derived.OpenShut
import Derived.ShutString
import Derived.ChangeOld
import Derived.Below
import Derived.SizedLaws
namespace Go.Proofs.Ytldmhlpfkclclaa.fnExactStagesOf
open Go.ChangeShapes Go.WideShapes Go.ChangeAt Go.RowKit Go.Proofs.Ytldmhlpfkclclaa.PFnExactStagesOf Go.Proofs.YtldmhlpfkclclaaW.PrintWords
set_option linter.unusedVariables false
set_option linter.unusedSimpArgs false
theorem own : ownKnob Try.prog.godebug = none := by kernel_rfl
theorem laidOut : laidOutB Try.prog = true := by kernel_rfl
theorem paths_C69 {W : World} {a : Option Addr} {n : Nat} {xs : List Open.Q4} (h : ReadsRow (fun x cs => cs = Open.q4 x) 4 W a n xs) : Kd.C k69 W a (xs.map fun x => (⟨x.1, x.2.1, x.2.2.1, x.2.2.2⟩ : S69)).length (xs.map fun x => (⟨x.1, x.2.1, x.2.2.1, x.2.2.2⟩ : S69)) := by
  refine ⟨rfl, by rw [List.length_map, h.1]; exact h.2.1, fun hp => ?_⟩
  rw [List.length_map, h.1] at hp
  obtain ⟨ad, e, hc⟩ := h.2.2 hp
  refine ⟨ad, e, fun j p hj => ?_⟩
  rw [List.getElem?_map] at hj
  obtain ⟨x, hx, rfl⟩ := Option.map_eq_some_iff.1 hj
  obtain ⟨c, hl, rfl, hcell⟩ := hc j x hx
  exact ⟨_, rfl, k69_mk _ _, hcell⟩
theorem wf_of69 {xs : List Open.Q4} (h : ∀ x ∈ xs, Open.Wf4 x) : ∀ x ∈ (xs.map fun x => (⟨x.1, x.2.1, x.2.2.1, x.2.2.2⟩ : S69)), (Lit.int .i64 x.f0).wf = true ∧ (Lit.int .i64 x.f1).wf = true ∧ (Lit.int .i64 x.f2).wf = true ∧ (Lit.int .i64 x.f3).wf = true := by
  intro y hy
  obtain ⟨x, hx, rfl⟩ := List.mem_map.1 hy
  exact h x hx
set_option maxRecDepth 100000 in
theorem lifted (os : Os) (started : os.Started) (H : Type) (enc : TypeId × Value → H) :
    ReturnsInHanded {} Try.checked os 14 .any (Rows.fnExactStagesOfSpec.pre6 enc Try.prog Try.f14 Rows.fnExactStagesOfRow.domain false) (Rows.fnExactStagesOfSpec.post enc Try.prog Try.f14 false true false false) := by
  refine returnsInHanded_of_change_sized (C := Try.checked) own started (by kernel_rfl) Try.func14
    (ChangeSpec.witness6 (enc := enc) (C := Try.checked) false ⟨#[], #[.slice none 0 0], []⟩ 8 (by kernel_rfl) (by kernel_rfl) (by kernel_rfl) (by kernel_rfl)) ?_
  intro W base args ds gs before hval0 hW hcnd hsz0 _
  have hsz : (DataW.weightsEach Try.prog (Try.f14.params.toList ++ Rows.fnExactStagesOfSpec.plain.varTypes Try.prog) (ds ++ gs)).all (· ≤ reachBytes) = true := hsz0
  have hval : ∀ (j : Nat) t v, Try.f14.params[j]? = some t → args[j]? = some v → Value.okWide Try.prog W .any base t v := hval0
  have hW' := hW
  obtain ⟨p, q, hA0, hV, rfl, hfz, hnd⟩ := hW
  have hA : DataW.TrodAll enc Try.prog W 0 (fun _ => true) true Try.f14.params.toList args.toList ds p := hA0
  rw [Try.params14] at hA hval hsz
  obtain ⟨v0, vs0, d0, ds0, p0, q0, hargs, rfl, rfl, h0, r0⟩ := trodAll_cons hA
  obtain ⟨rfl, rfl, rfl⟩ := trodAll_nil r0
  obtain rfl : args = #[v0] := by cases args; simp_all
  obtain ⟨rfl, rfl⟩ := trodVars_none hV
  obtain ⟨a0, len0, cap0, rfl⟩ := okWide_slice Try.underlying22 (hval 0 22 v0 rfl rfl)
  have k0 := h0
  have lt0 : ∀ x ∈ p0, x.block < W.heap.size := by obtain ⟨m, hm⟩ := k0; exact DataW.trod_lt m _ _ _ hm
  obtain ⟨x0, rfl, cc0, rr0, wf0, sz0⟩ := Open.paths hsz (j := 0) (t := 22) rfl rfl Try.underlying22 Try.underlying69 (by kernel_rfl) (by kernel_rfl) (by kernel_rfl) Try.underlying3 Try.underlying3 Try.underlying3 Try.underlying3 h0
  have hC0 := paths_C69 rr0
  clear hA0 hval0 hsz0 hsz
  obtain ⟨kk, hk⟩ := Pure.FnExactStagesOf (by simpa using sz0) (wf_of69 wf0)
  have cal := laws_FnExactStagesOf.calls (r := true) (w := W) (hr0 := hC0) (hc0 := (by simpa using cc0)) (h := hk)
  simp only [List.length_map] at cal
  refine cal.mono fun e W' ⟨he, bel⟩ => ?_
  subst he
  exact ⟨_, rfl, _, _, _, [], _, [], hW', trodAll_mk1 (shut_bool Try.underlying4 _), (trodAll_cons_mk (Below.trod laidOut (by kernel_rfl) (of_decide_eq_true (by kernel_rfl)) k0 bel lt0) trodAll_mk0), rfl, bel.frame _, fun h => by cases h⟩
theorem over : Rows.fnExactStagesOfRow.holds Try.pinned (OpenSpec.ofChange Rows.fnExactStagesOfSpec) :=
  OpenClaim.holds_of_wide 14 Try.f14 rfl rfl rfl rfl rfl rfl rfl ⟨rfl, rfl, rfl, rfl, rfl⟩ rfl rfl rfl rfl rfl (by kernel_rfl) Try.func14 (by kernel_rfl)
    (of_decide_eq_true (by kernel_rfl)) (by unfold Func.isWrapper; first | (rw [if_pos (by decide +kernel)]; kernel_rfl) | (rw [if_neg (by decide +kernel)]; exact ⟨rfl, rfl⟩))
    (fun os started H enc _ => lifted os started H enc)
theorem proved : Rows.FnExactStagesOfSaid := over
#print axioms proved
end Go.Proofs.Ytldmhlpfkclclaa.fnExactStagesOf
namespace Go.Proofs.Ytldmhlpfkclclaa
/-- The row, under a short name, for the claim. -/
theorem fnExactStagesOf_holds : Rows.FnExactStagesOfSaid := fnExactStagesOf.proved
end Go.Proofs.Ytldmhlpfkclclaa
