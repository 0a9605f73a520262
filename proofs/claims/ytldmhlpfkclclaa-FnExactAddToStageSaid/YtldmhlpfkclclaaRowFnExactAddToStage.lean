/- The row of FnExactAddToStage: whatever the arguments (that fit into memory), the law answers true and they read as they did. No condition. -/
import Derived.Test.YtldmhlpfkclclaaRows
import Derived.Test.YtldmhlpfkclclaaQFnExactAddToStagex13
import Derived.Test.YtldmhlpfkclclaaPureFnExactAddToStage
import Derived.Test.YtldmhlpfkclclaaVFnExactAddToStageOpen
import Derived.WalkKit
import Derived.ProofKit
import Derived.OpenShut
import Derived.ShutString
import Derived.ChangeOld
import Derived.Below
import Derived.SizedLaws
import Derived.Test.YtldmhlpfkclclaaVFnExactAddToStageSized
namespace Go.Proofs.Ytldmhlpfkclclaa.fnExactAddToStage
open Go.ChangeShapes Go.WideShapes Go.ChangeAt Go.RowKit Go.Proofs.Ytldmhlpfkclclaa.PFnExactAddToStage Go.Proofs.YtldmhlpfkclclaaW.PrintWords
set_option linter.unusedVariables false
set_option linter.unusedSimpArgs false
theorem own : ownKnob Try.prog.godebug = none := by kernel_rfl
theorem laidOut : laidOutB Try.prog = true := by kernel_rfl
theorem paths_C69 {W : World} {a : Option Addr} {n : Nat} {xs : List Open.Q4} (h : ReadsRow (fun x cs => cs = Open.q4 x) 4 W a n xs) : Kd.C k69 W a (xs.map fun x => (⟨x.1, x.2.1, x.2.2.1, x.2.2.2⟩ : S69)).length (xs.map fun x => (⟨x.1, x.2.1, x.2.2.1, x.2.2.2⟩ : S69)) := by
  refine ⟨rfl, by rw [List.length_map, h.1]; exact h.2.1, fun hp => ?_⟩
  rw [List.length_map, h.1] at hp
  obtain ⟨ad, e, hc⟩ := h.2.2 hp
  refine ⟨ad, e, fun j p hj => ?_⟩
  rw [List.getElem?_map] at hj
  obtain ⟨x, hx, rfl⟩ := Option.map_eq_some_iff.1 hj
  obtain ⟨c, hl, rfl, hcell⟩ := hc j x hx
  exact ⟨_, rfl, k69_mk _ _, hcell⟩
theorem wf_of69 {xs : List Open.Q4} (h : ∀ x ∈ xs, Open.Wf4 x) : ∀ x ∈ (xs.map fun x => (⟨x.1, x.2.1, x.2.2.1, x.2.2.2⟩ : S69)), (Lit.int .i64 x.f0).wf = true ∧ (Lit.int .i64 x.f1).wf = true ∧ (Lit.int .i64 x.f2).wf = true ∧ (Lit.int .i64 x.f3).wf = true := by
  intro y hy
  obtain ⟨x, hx, rfl⟩ := List.mem_map.1 hy
  exact h x hx
def IsRow (k : IntKind) (w : World) (a : Option Addr) (len cap : Nat) (zs : List Int) : Prop :=
  (a = none ∧ len = 0 ∧ cap = 0 ∧ zs = []) ∨
  ∃ x, a = some x ∧ len ≤ cap ∧ cap ≤ maxLen ∧ zs.length = cap ∧ (∀ i, i < zs.length → w.cell? (x.add i) = some (.int k (zs.getD i 0))) ∧ ∀ n ∈ zs, (Lit.int k n).wf = true
set_option maxRecDepth 100000 in
theorem lifted (os : Os) (started : os.Started) (H : Type) (enc : TypeId × Value → H) :
    ReturnsInHanded {} Try.checked os 9 .any (Rows.fnExactAddToStageSpec.pre6 enc Try.prog Try.f9 Rows.fnExactAddToStageRow.domain false) (Rows.fnExactAddToStageSpec.post enc Try.prog Try.f9 false true false false) := by
  refine returnsInHanded_of_change_sized (C := Try.checked) own started (by kernel_rfl) Try.func9
    (ChangeSpec.witness6 (enc := enc) (C := Try.checked) false ⟨#[], #[.slice none 0 0, .slice none 0 0], []⟩ 8 (by kernel_rfl) (by kernel_rfl) (by kernel_rfl) (by kernel_rfl)) ?_
  intro W base args ds gs before hval0 hW hcnd hsz0 _
  have hsz : (DataW.weightsEach Try.prog (Try.f9.params.toList ++ Rows.fnExactAddToStageSpec.plain.varTypes Try.prog) (ds ++ gs)).all (· ≤ reachBytes) = true := hsz0
  have hval : ∀ (j : Nat) t v, Try.f9.params[j]? = some t → args[j]? = some v → Value.okWide Try.prog W .any base t v := hval0
  have hW' := hW
  obtain ⟨p, q, hA0, hV, rfl, hfz, hnd⟩ := hW
  have hA : DataW.TrodAll enc Try.prog W 0 (fun _ => true) true Try.f9.params.toList args.toList ds p := hA0
  rw [Try.params9] at hA hval hsz
  obtain ⟨v0, vs0, d0, ds0, p0, q0, hargs, rfl, rfl, h0, r0⟩ := trodAll_cons hA
  obtain ⟨v1, vs1, d1, ds1, p1, q1, rfl, rfl, rfl, h1, r1⟩ := trodAll_cons r0
  obtain ⟨rfl, rfl, rfl⟩ := trodAll_nil r1
  obtain rfl : args = #[v0, v1] := by cases args; simp_all
  obtain ⟨rfl, rfl⟩ := trodVars_none hV
  obtain ⟨a0, len0, cap0, rfl⟩ := okWide_slice Try.underlying22 (hval 0 22 v0 rfl rfl)
  have k0 := h0
  have lt0 : ∀ x ∈ p0, x.block < W.heap.size := by obtain ⟨m, hm⟩ := k0; exact DataW.trod_lt m _ _ _ hm
  obtain ⟨x0, rfl, cc0, rr0, wf0, sz0⟩ := Open.paths hsz (j := 0) (t := 22) rfl rfl Try.underlying22 Try.underlying69 (by kernel_rfl) (by kernel_rfl) (by kernel_rfl) Try.underlying3 Try.underlying3 Try.underlying3 Try.underlying3 h0
  have hC0 := paths_C69 rr0
  obtain ⟨a1, len1, cap1, rfl⟩ := okWide_slice Try.underlying29 (hval 1 29 v1 rfl rfl)
  have k1 := h1
  have lt1 : ∀ x ∈ p1, x.block < W.heap.size := by obtain ⟨m, hm⟩ := k1; exact DataW.trod_lt m _ _ _ hm
  obtain ⟨z1, w1⟩ : ∃ zs, IsRow .i64 W a1 len1 cap1 zs := by
    obtain ⟨fuel, hf⟩ := h1
    rcases open_ints Try.underlying29 Try.underlying3 (by kernel_rfl) hf with ⟨hcs, _⟩ | ⟨x, l, c, zs, hcs, _, hl, hm, hz, _, hcell, hwz⟩
    · simp [Value.cells] at hcs
      obtain ⟨rfl, rfl, rfl⟩ := hcs
      exact ⟨[], .inl ⟨rfl, rfl, rfl, rfl⟩⟩
    · simp [Value.cells] at hcs
      obtain ⟨rfl, rfl, rfl⟩ := hcs
      exact ⟨zs, .inr ⟨_, rfl, hl, hm, by simpa using hz, hcell, hwz⟩⟩
  have sz1 : len1 * 8 ≤ 140737488351232 := sized_ints hsz (j := 1) (t := 29) rfl rfl Try.underlying29 Try.underlying3 (by kernel_rfl) (by kernel_rfl) h1
  obtain ⟨x1, rfl, rr1, hm1, wf1, cc1⟩ := ReadsInt.ofRowC w1
  have hC1 := Kd.C_of_reads (d := (0 : Int)) (h1 := fun _ => rfl) rr1
  clear hA0 hval0 hsz0 hsz
  obtain ⟨kk, hk⟩ := Pure.FnExactAddToStage (by simpa using sz0) (wf_of69 wf0) sz1 wf1
  have cal := laws_FnExactAddToStage.calls (r := true) (w := W) (hr0 := hC0) (hc0 := (by simpa using cc0)) (hr1 := hC1) (hc1 := cc1) (h := hk)
  simp only [List.length_map] at cal
  refine cal.mono fun e W' ⟨he, bel⟩ => ?_
  subst he
  exact ⟨_, rfl, _, _, _, [], _, [], hW', trodAll_mk1 (shut_bool Try.underlying4 _), (trodAll_cons_mk (Below.trod laidOut (by kernel_rfl) (of_decide_eq_true (by kernel_rfl)) k0 bel lt0) (trodAll_cons_mk (Below.trod laidOut (by kernel_rfl) (of_decide_eq_true (by kernel_rfl)) k1 bel lt1) trodAll_mk0)), rfl, bel.frame _, fun h => by cases h⟩
theorem over : Rows.fnExactAddToStageRow.holds Try.pinned (OpenSpec.ofChange Rows.fnExactAddToStageSpec) :=
  OpenClaim.holds_of_wide 9 Try.f9 rfl rfl rfl rfl rfl rfl rfl ⟨rfl, rfl, rfl, rfl, rfl⟩ rfl rfl rfl rfl rfl (by kernel_rfl) Try.func9 (by kernel_rfl)
    (of_decide_eq_true (by kernel_rfl)) (by unfold Func.isWrapper; first | (rw [if_pos (by decide +kernel)]; kernel_rfl) | (rw [if_neg (by decide +kernel)]; exact ⟨rfl, rfl⟩))
    (fun os started H enc _ => lifted os started H enc)
theorem proved : Rows.FnExactAddToStageSaid := over
#print axioms proved
end Go.Proofs.Ytldmhlpfkclclaa.fnExactAddToStage
namespace Go.Proofs.Ytldmhlpfkclclaa
/-- The row, under a short name, for the claim. -/
theorem fnExactAddToStage_holds : Rows.FnExactAddToStageSaid := fnExactAddToStage.proved
end Go.Proofs.Ytldmhlpfkclclaa
