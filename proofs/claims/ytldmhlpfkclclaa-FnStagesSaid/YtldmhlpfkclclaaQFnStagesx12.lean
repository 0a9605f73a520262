/- Our own text: the functions that FnStages reaches, and what a call of each comes to (written by wip/drive.py). Each theorem states its own conditions. -/
import Derived.Test.YtldmhlpfkclclaaQFnStagesx0
import Derived.Test.YtldmhlpfkclclaaQFnStagesx3
import Derived.Test.YtldmhlpfkclclaaQFnStagesx4
import Derived.Test.YtldmhlpfkclclaaQFnStagesx5
import Derived.Test.YtldmhlpfkclclaaQFnStagesx6
import Derived.Test.YtldmhlpfkclclaaQFnStagesx7
import Derived.Test.YtldmhlpfkclclaaQFnStagesx8
import Derived.Test.YtldmhlpfkclclaaQFnStagesx10
import Derived.Test.YtldmhlpfkclclaaQFnStagesx11
namespace Go.Proofs.Ytldmhlpfkclclaa.PFnStages
open Go.RowKit Go.Proofs.YtldmhlpfkclclaaW.PrintWords Go.Proofs.YtldmhlpfkclclaaW.PrintLast Go.Proofs.YtldmhlpfkclclaaW.PrintMore
attribute [local go_sem] max2_int min2_int max_two min_two max_three min_three max_four min_four   -- for this text's walks alone
set_option linter.unusedVariables false
set_option linter.unusedSimpArgs false

/-! ### laws_FnStages: function 13 -/
mutual
def laws_FnStages.l0 : Nat → List Int → List (S50) → List (List Int) → Int → Option (Bool)
  | 0, _, _, _, _ => none
  | k + 1, x0, x3, x4, x5 => if x5 < (x4.length : Int) then (if 0 ≤ x5 then ((impl_IsFullStage.f k x3 (rd_L2 x4 x5)).bind fun t402 => (if t402 = true then (if ((rd_L2 x4 x5).length : Int) = 0 then (some false) else (if x5 > 0 then (if 0 ≤ (wrap64 (x5 - 1)) then (if (wrap64 (x5 - 1)) < (x4.length : Int) then ((laws_sameInts.f k (rd_L2 x4 (wrap64 (x5 - 1))) (rd_L2 x4 x5)).bind fun t406 => (if t406 = true then (some false) else (laws_FnStages.l0 k x0 x3 x4 (wrap64 (x5 + 1))))) else (none)) else (none)) else (laws_FnStages.l0 k x0 x3 x4 (wrap64 (x5 + 1))))) else (some false))) else (none)) else ((impl_ArePaths.f k x3).bind fun t407 => (if t407 = true then (if (x4.length : Int) < 40 then ((impl_Covers.f k x3 x4).bind fun t408 => (if t408 = true then (laws_FnStages.j1 k x0 x3 (decide ((x4.length : Int) > 40))) else (laws_FnStages.j1 k x0 x3 true))) else (laws_FnStages.j1 k x0 x3 (decide ((x4.length : Int) > 40)))) else (laws_FnStages.j1 k x0 x3 (decide ((x4.length : Int) > 40)))))
def laws_FnStages.j1 : Nat → List Int → List (S50) → Bool → Option (Bool)
  | 0, _, _, _ => none
  | k + 1, x0, x3, x70 => if x70 = true then (some false) else ((impl_CoverOf.f k x3).bind fun t409 => ((impl_ArePaths.f k x3).bind fun t412 => ((impl_Covers.f k x3 t409).bind fun t413 => (if (t412 != t413) = true then (laws_FnStages.j2 k x0 true) else (laws_FnStages.j2 k x0 (decide ((t409.length : Int) > (x3.length : Int))))))))
def laws_FnStages.j2 : Nat → List Int → Bool → Option (Bool)
  | 0, _, _ => none
  | k + 1, x0, x85 => if x85 = true then (some false) else ((spec_DrawAddToStage.f k x0).bind fun bt414 => ((impl_AddToStage.f k bt414.1 bt414.2).bind fun t420 => ((laws_within.f k bt414.2 t420).bind fun t423 => (if t423 = true then ((impl_IsTogether.f k bt414.1 bt414.2).bind fun t424 => (if t424 = true then ((impl_IsFullStage.f k bt414.1 t420).bind fun t425 => (some t425)) else (some true))) else (some false)))))
end
def laws_FnStages.f (k : Nat) (l0 : List Int) : Option (Bool) := (laws_big.f l0).bind fun t394 => (if t394 = true then (some true) else ((spec_DrawStagesOf.f k l0).bind fun t395 => ((impl_StagesOf.f k t395).bind fun t398 => (laws_FnStages.l0 k l0 t395 t398 0))))
theorem laws_FnStages.mono_l : ∀ k, (∀ y0 y1 y2 y3, LeO (laws_FnStages.l0 k y0 y1 y2 y3) (laws_FnStages.l0 (k + 1) y0 y1 y2 y3)) ∧ (∀ y0 y1 y2, LeO (laws_FnStages.j1 k y0 y1 y2) (laws_FnStages.j1 (k + 1) y0 y1 y2)) ∧ (∀ y0 y1, LeO (laws_FnStages.j2 k y0 y1) (laws_FnStages.j2 (k + 1) y0 y1))
  | 0 => ⟨fun _ _ _ _ r h => by simp [laws_FnStages.l0] at h, fun _ _ _ r h => by simp [laws_FnStages.j1] at h, fun _ _ r h => by simp [laws_FnStages.j2] at h⟩
  | k + 1 => by
    obtain ⟨ih0, ih1, ih2⟩ := laws_FnStages.mono_l k
    refine ⟨?_, ?_, ?_⟩
    · intro y0 y1 y2 y3
      unfold laws_FnStages.l0
      repeat' first
      | (with_reducible exact ih0 _ _ _ _)
      | (with_reducible exact ih1 _ _ _)
      | (with_reducible exact ih2 _ _)
      | (with_reducible exact impl_AddToStage.mono _ _ _)
      | (with_reducible exact impl_ArePaths.mono _ _)
      | (with_reducible exact impl_CoverOf.mono _ _)
      | (with_reducible exact impl_Covers.mono _ _ _)
      | (with_reducible exact impl_IsFullStage.mono _ _ _)
      | (with_reducible exact impl_IsTogether.mono _ _ _)
      | (with_reducible exact impl_StagesOf.mono _ _)
      | (with_reducible exact laws_sameInts.mono _ _ _)
      | (with_reducible exact laws_within.mono _ _ _)
      | (with_reducible exact spec_DrawAddToStage.mono _ _)
      | (with_reducible exact spec_DrawStagesOf.mono _ _)
      | (with_reducible exact LeO.refl _)
      | (with_reducible exact LeO.none _)
      | (with_reducible refine LeO.ite ?_ ?_)
      | (with_reducible refine LeO.bind ?_ (fun _ => ?_))
      | exact ih0 _ _ _ _
      | exact ih1 _ _ _
      | exact ih2 _ _
      | exact impl_AddToStage.mono _ _ _
      | exact impl_ArePaths.mono _ _
      | exact impl_CoverOf.mono _ _
      | exact impl_Covers.mono _ _ _
      | exact impl_IsFullStage.mono _ _ _
      | exact impl_IsTogether.mono _ _ _
      | exact impl_StagesOf.mono _ _
      | exact laws_sameInts.mono _ _ _
      | exact laws_within.mono _ _ _
      | exact spec_DrawAddToStage.mono _ _
      | exact spec_DrawStagesOf.mono _ _
      | exact LeO.none _
      | refine LeO.ite ?_ ?_
      | refine LeO.bind ?_ (fun _ => ?_)
    · intro y0 y1 y2
      unfold laws_FnStages.j1
      repeat' first
      | (with_reducible exact ih0 _ _ _ _)
      | (with_reducible exact ih1 _ _ _)
      | (with_reducible exact ih2 _ _)
      | (with_reducible exact impl_AddToStage.mono _ _ _)
      | (with_reducible exact impl_ArePaths.mono _ _)
      | (with_reducible exact impl_CoverOf.mono _ _)
      | (with_reducible exact impl_Covers.mono _ _ _)
      | (with_reducible exact impl_IsFullStage.mono _ _ _)
      | (with_reducible exact impl_IsTogether.mono _ _ _)
      | (with_reducible exact impl_StagesOf.mono _ _)
      | (with_reducible exact laws_sameInts.mono _ _ _)
      | (with_reducible exact laws_within.mono _ _ _)
      | (with_reducible exact spec_DrawAddToStage.mono _ _)
      | (with_reducible exact spec_DrawStagesOf.mono _ _)
      | (with_reducible exact LeO.refl _)
      | (with_reducible exact LeO.none _)
      | (with_reducible refine LeO.ite ?_ ?_)
      | (with_reducible refine LeO.bind ?_ (fun _ => ?_))
      | exact ih0 _ _ _ _
      | exact ih1 _ _ _
      | exact ih2 _ _
      | exact impl_AddToStage.mono _ _ _
      | exact impl_ArePaths.mono _ _
      | exact impl_CoverOf.mono _ _
      | exact impl_Covers.mono _ _ _
      | exact impl_IsFullStage.mono _ _ _
      | exact impl_IsTogether.mono _ _ _
      | exact impl_StagesOf.mono _ _
      | exact laws_sameInts.mono _ _ _
      | exact laws_within.mono _ _ _
      | exact spec_DrawAddToStage.mono _ _
      | exact spec_DrawStagesOf.mono _ _
      | exact LeO.none _
      | refine LeO.ite ?_ ?_
      | refine LeO.bind ?_ (fun _ => ?_)
    · intro y0 y1
      unfold laws_FnStages.j2
      repeat' first
      | (with_reducible exact ih0 _ _ _ _)
      | (with_reducible exact ih1 _ _ _)
      | (with_reducible exact ih2 _ _)
      | (with_reducible exact impl_AddToStage.mono _ _ _)
      | (with_reducible exact impl_ArePaths.mono _ _)
      | (with_reducible exact impl_CoverOf.mono _ _)
      | (with_reducible exact impl_Covers.mono _ _ _)
      | (with_reducible exact impl_IsFullStage.mono _ _ _)
      | (with_reducible exact impl_IsTogether.mono _ _ _)
      | (with_reducible exact impl_StagesOf.mono _ _)
      | (with_reducible exact laws_sameInts.mono _ _ _)
      | (with_reducible exact laws_within.mono _ _ _)
      | (with_reducible exact spec_DrawAddToStage.mono _ _)
      | (with_reducible exact spec_DrawStagesOf.mono _ _)
      | (with_reducible exact LeO.refl _)
      | (with_reducible exact LeO.none _)
      | (with_reducible refine LeO.ite ?_ ?_)
      | (with_reducible refine LeO.bind ?_ (fun _ => ?_))
      | exact ih0 _ _ _ _
      | exact ih1 _ _ _
      | exact ih2 _ _
      | exact impl_AddToStage.mono _ _ _
      | exact impl_ArePaths.mono _ _
      | exact impl_CoverOf.mono _ _
      | exact impl_Covers.mono _ _ _
      | exact impl_IsFullStage.mono _ _ _
      | exact impl_IsTogether.mono _ _ _
      | exact impl_StagesOf.mono _ _
      | exact laws_sameInts.mono _ _ _
      | exact laws_within.mono _ _ _
      | exact spec_DrawAddToStage.mono _ _
      | exact spec_DrawStagesOf.mono _ _
      | exact LeO.none _
      | refine LeO.ite ?_ ?_
      | refine LeO.bind ?_ (fun _ => ?_)
theorem laws_FnStages.mono : ∀ a0 k, LeO (laws_FnStages.f k a0) (laws_FnStages.f (k + 1) a0) := by
  intro a0 k
  obtain ⟨ih0, ih1, ih2⟩ := laws_FnStages.mono_l k
  unfold laws_FnStages.f
  repeat' first
      | (with_reducible exact ih0 _ _ _ _)
      | (with_reducible exact ih1 _ _ _)
      | (with_reducible exact ih2 _ _)
      | (with_reducible exact impl_AddToStage.mono _ _ _)
      | (with_reducible exact impl_ArePaths.mono _ _)
      | (with_reducible exact impl_CoverOf.mono _ _)
      | (with_reducible exact impl_Covers.mono _ _ _)
      | (with_reducible exact impl_IsFullStage.mono _ _ _)
      | (with_reducible exact impl_IsTogether.mono _ _ _)
      | (with_reducible exact impl_StagesOf.mono _ _)
      | (with_reducible exact laws_sameInts.mono _ _ _)
      | (with_reducible exact laws_within.mono _ _ _)
      | (with_reducible exact spec_DrawAddToStage.mono _ _)
      | (with_reducible exact spec_DrawStagesOf.mono _ _)
      | (with_reducible exact LeO.refl _)
      | (with_reducible exact LeO.none _)
      | (with_reducible refine LeO.ite ?_ ?_)
      | (with_reducible refine LeO.bind ?_ (fun _ => ?_))
      | exact ih0 _ _ _ _
      | exact ih1 _ _ _
      | exact ih2 _ _
      | exact impl_AddToStage.mono _ _ _
      | exact impl_ArePaths.mono _ _
      | exact impl_CoverOf.mono _ _
      | exact impl_Covers.mono _ _ _
      | exact impl_IsFullStage.mono _ _ _
      | exact impl_IsTogether.mono _ _ _
      | exact impl_StagesOf.mono _ _
      | exact laws_sameInts.mono _ _ _
      | exact laws_within.mono _ _ _
      | exact spec_DrawAddToStage.mono _ _
      | exact spec_DrawStagesOf.mono _ _
      | exact LeO.none _
      | refine LeO.ite ?_ ?_
      | refine LeO.bind ?_ (fun _ => ?_)
def laws_FnStages.T8 : Bool × List (List Nat × List Nat) := (true, [([], []), ([], []), ([], []), ([1, 2], [1, 2]), ([3], [3]), ([0, 4], [0, 4]), ([5], [5]), ([6, 5], [6]), ([7], [7]), ([7], [7]), ([8, 9, 7], [7, 8, 9]), ([10, 7], [7, 10]), ([11, 7], [7, 11]), ([12, 7], [7, 12]), ([7, 13], [7, 13]), ([14, 7], [14]), ([15], [15]), ([16, 15], [15, 16]), ([17, 15, 15], [15, 17]), ([18], [18]), ([18], [18]), ([20, 18], [18, 20]), ([19, 21, 18], [18, 19, 21]), ([22, 18], [18, 22]), ([18], [18]), ([18], [18]), ([24, 25, 18], [18, 24, 25]), ([26, 18], [18, 26]), ([23, 27, 18, 18], [18, 23, 27]), ([18, 28, 15], [15, 18, 28]), ([15, 29], [15, 29])])
def laws_FnStages.B8 : List Nat := [0, 0, 0, 6, 14, 31, 63, 127, 255, 255, 1023, 2047, 4095, 8191, 16383, 32767, 65535, 131071, 262143, 524287, 524287, 1572863, 4194303, 8388607, 524287, 524287, 50855935, 117964799, 268435455, 536870911, 1073741823]
theorem laws_FnStages.tab8 : rtab .any (opsOf Try.f13 8) = laws_FnStages.T8 := by kernel_rfl
theorem laws_FnStages.bits8 : waitsOk laws_FnStages.T8.2 laws_FnStages.B8 = true := by kernel_rfl
set_option maxHeartbeats 8000000 in
set_option maxRecDepth 100000 in
theorem laws_FnStages.calls (k : Nat) (A0 : Option Addr) (c0 : Nat) (l0 : List Int) (r : Bool) (w : World) (hr0 : Kd.C (Kd.int .u8) w A0 l0.length l0) (hc0 : l0.length ≤ c0) (h : laws_FnStages.f k l0 = some r) :
    Calls Try.prog 13 #[.slice A0 l0.length c0] w fun e w' => e = .returned (.bool r) ∧ Below w.heap.size w w' := by
 have HR0 := Aside0.mk hr0
 have HC0 := Aside0.mk hc0
 clear hr0 hc0
 have HB := Aside0.mk (Below.refl w.heap.size w)
 have H : ((laws_big.f l0).bind fun t394 => (if t394 = true then (some true) else ((spec_DrawStagesOf.f k l0).bind fun t395 => ((impl_StagesOf.f k t395).bind fun t398 => (laws_FnStages.l0 k l0 t395 t398 0))))) = some r := h
 clear h
 replace H := Option.bind_eq_some_iff.mp H
 obtain ⟨t394, A20, H⟩ := H
 try dsimp only at H
 have A2 := Aside0.mk A20
 clear A20
 by_cases c3 : t394 = true
 ·
  subst c3
  have H1 : (some true) = some r := by rw [if_pos rfl] at H; exact H
  clear H
  have H := H1
  clear H1
  obtain rfl := Option.some.inj H
  go_enter Try.func13, Try.ntmps13
  go_wp2_with (first | ((with_reducible refine gate_callee (f := 44) rfl ?_); refine goesL_ (some 11) rfl rfl Try.func44 (by kernel_rfl) rfl #[.slice A0 l0.length c0] rfl (by (try simp only [List.map_toArray, List.map_cons, List.map_nil]); first | done | rfl | (simp only [List.length_drop, List.length_take]; rfl)) ?_; (with_reducible refine (laws_big.calls _ _ l0 true _ ?side1 ?side2 A2.out).mono ?_); (case side1 => repeat (first | exact HR0.out | (with_reducible refine Kd.C_alloc ?_ _) | (with_reducible refine Kd.C_drewN ?_ _) | (with_reducible refine Kd.C_drew ?_))); (case side2 => exact HC0.out); rintro e w' ⟨rfl, ⟨nd, rfl⟩⟩; refine ⟨_, rfl, ?_⟩))
  go_ret
  exact ⟨by first | rfl | (simp [errW_none, errW_some] <;> rfl) | (simp [*, errW_none, errW_some] <;> rfl), by repeat (first | (with_reducible first | exact HB.out | apply below_alloc | apply pw_below_drewN | apply below_drew1) | exact HB.out)⟩
 replace c3 := Bool.eq_false_iff.mpr c3
 subst c3
 have H1 : ((spec_DrawStagesOf.f k l0).bind fun t395 => ((impl_StagesOf.f k t395).bind fun t398 => (laws_FnStages.l0 k l0 t395 t398 0))) = some r := by rw [if_neg (show ¬ (false = true) by decide)] at H; exact H
 clear H
 have H := H1
 clear H1
 replace H := Option.bind_eq_some_iff.mp H
 obtain ⟨t395, A40, H⟩ := H
 try dsimp only at H
 have A4 := Aside0.mk A40
 clear A40
 replace H := Option.bind_eq_some_iff.mp H
 obtain ⟨t398, A50, H⟩ := H
 try dsimp only at H
 have A5 := Aside0.mk A50
 clear A50
 have H' := Aside0.mk H
 clear H
 go_enter Try.func13, Try.ntmps13
 go_wp2_with (first | ((with_reducible refine gate_callee (f := 44) rfl ?_); refine goesL_ (some 11) rfl rfl Try.func44 (by kernel_rfl) rfl #[.slice A0 l0.length c0] rfl (by (try simp only [List.map_toArray, List.map_cons, List.map_nil]); first | done | rfl | (simp only [List.length_drop, List.length_take]; rfl)) ?_; (with_reducible refine (laws_big.calls _ _ l0 false _ ?side1 ?side2 A2.out).mono ?_); (case side1 => repeat (first | exact HR0.out | (with_reducible refine Kd.C_alloc ?_ _) | (with_reducible refine Kd.C_drewN ?_ _) | (with_reducible refine Kd.C_drew ?_))); (case side2 => exact HC0.out); rintro e w' ⟨rfl, ⟨nd, rfl⟩⟩; refine ⟨_, rfl, ?_⟩) | ((with_reducible refine gate_callee (f := 61) rfl ?_); refine goesL_ (some 13) rfl rfl Try.func61 (by kernel_rfl) rfl #[.slice A0 l0.length c0] rfl (by (try simp only [List.map_toArray, List.map_cons, List.map_nil]); first | done | rfl | (simp only [List.length_drop, List.length_take]; rfl)) ?_; (with_reducible refine (spec_DrawStagesOf.calls k _ _ l0 t395 _ ?side1 ?side2 A4.out).mono ?_); (case side1 => repeat (first | exact HR0.out | (with_reducible refine Kd.C_alloc ?_ _) | (with_reducible refine Kd.C_drewN ?_ _) | (with_reducible refine Kd.C_drew ?_))); (case side2 => exact HC0.out); rintro e w6 ⟨v396, rfl, ho0, hb⟩; refine ⟨_, rfl, ?_⟩; have n0_ := Aside0.mk (Kd.R_lower ho0 (below_size (by repeat (first | (with_reducible first | exact HB.out | apply below_alloc | apply pw_below_drewN | apply below_drew1) | exact HB.out)))); have n1_ := Aside0.mk (below_step (by repeat (first | (with_reducible first | exact HB.out | apply below_alloc | apply pw_below_drewN | apply below_drew1) | exact HB.out)) hb); clear HB; have HO397 := n0_; have HB := n1_; clear n0_ n1_; (try clear hb); (try clear hb2); (try clear hk); (try clear hi); (try clear ho0); obtain ⟨Ao7, co7, eo7⟩ := Kd.R_slice HO397.out; subst eo7) | ((with_reducible refine gate_callee (f := 62) rfl ?_); refine goesL_ (some 15) rfl rfl Try.func62 (by kernel_rfl) rfl #[.slice Ao7 t395.length co7] rfl (by (try simp only [List.map_toArray, List.map_cons, List.map_nil]); first | done | rfl | (simp only [List.length_drop, List.length_take]; rfl)) ?_; (with_reducible refine (impl_StagesOf.calls k _ _ t395 t398 _ ?side1 ?side2 A5.out).mono ?_); (case side1 => repeat (first | exact (Kd.R_reads' HO397.out).2.2 | (with_reducible refine Kd.C_alloc ?_ _) | (with_reducible refine Kd.C_drewN ?_ _) | (with_reducible refine Kd.C_drew ?_))); (case side2 => exact (Kd.R_reads' HO397.out).2.1); rintro e w8 ⟨v399, rfl, ho0, hb⟩; refine ⟨_, rfl, ?_⟩; have n0_ := Aside0.mk (Kd.R_below (by (with_reducible repeat (first | apply Kd.R_alloc | apply Kd.R_drewN | apply Kd.R_drew)); exact HO397.out) hb); have n1_ := Aside0.mk (Kd.S_lower ho0 (below_size (by repeat (first | (with_reducible first | exact HB.out | apply below_alloc | apply pw_below_drewN | apply below_drew1) | exact HB.out)))); have n2_ := Aside0.mk (below_step (by repeat (first | (with_reducible first | exact HB.out | apply below_alloc | apply pw_below_drewN | apply below_drew1) | exact HB.out)) hb); clear HO397; clear HB; have HO397 := n0_; have HO400 := n1_; have HB := n2_; clear n0_ n1_ n2_; (try clear hb); (try clear hb2); (try clear hk); (try clear hi); (try clear ho0)))
 go_loopg [5] k (fun kq v5 w' => ∃ (x5_1 : Int), v5 = .int .i64 x5_1 ∧ Aside0 (laws_FnStages.l0 kq l0 t395 t398 x5_1 = some r) ∧ Aside0 (kq ≤ k) ∧ Aside0 (Kd.R k50 50 w' w.heap.size (fun _ => True) (.slice Ao7 t395.length co7) t395) ∧ Aside0 (Kd.S (Kd.slice 3 (Kd.int .i64)) 29 w' w.heap.size (fun _ => True) v399 t398) ∧ Aside0 (Below w.heap.size w w'))
 case atStart => exact ⟨(0), (by first | rfl | (simp; done) | (simp [*]; done)), H', ⟨Nat.le_refl _⟩, ⟨by (with_reducible repeat (first | apply Kd.R_alloc | apply Kd.R_drewN | apply Kd.R_drew)); exact HO397.out⟩, ⟨by (with_reducible repeat (first | apply Kd.S_alloc | apply Kd.S_drewN | apply Kd.S_drew)); exact HO400.out⟩, ⟨by repeat (first | (with_reducible first | exact HB.out | apply below_alloc | apply pw_below_drewN | apply below_drew1) | exact HB.out)⟩⟩
 case round =>
  clear H'
  try clear c1
  try clear p2
  try clear c3
  try clear c4
  try clear c6
  obtain ⟨x5_1, rfl, HA, HK1, HO_3, HO_4, HB⟩ := hrel
  cases gk with
  | zero => exact absurd HA.out (by simp [laws_FnStages.l0])
  | succ k1 =>
   have H := HA.out
   clear HA
   simp only [laws_FnStages.l0] at H
   by_cases c9 : x5_1 < (t398.length : Int)
   rotate_left
   ·
    rw [if_neg c9] at H
    have c9b0 : decide (x5_1 < (t398.length : Int)) = false := decide_eq_false c9
    clear c9
    have HC35 := Aside0.mk H
    clear H
    obtain ⟨Ao36, co36, eo36⟩ := Kd.S_slice HO_4.out
    subst eo36
    go_upto_region 10 with (fail)
    go_cut [70] (fun v70 wc => ∃ (kq : Nat) (x70_34 : Bool), v70 = .bool x70_34 ∧ Aside0 (laws_FnStages.j1 kq l0 t395 x70_34 = some r) ∧ Aside0 (kq ≤ k1) ∧ Aside0 (Kd.R k50 50 wc w.heap.size (fun _ => True) (.slice Ao7 t395.length co7) t395) ∧ Aside0 (Below w.heap.size w wc))
    case first =>
     have H := HC35.out
     clear HC35
     replace H := Option.bind_eq_some_iff.mp H
     obtain ⟨t407, A370, H⟩ := H
     try dsimp only at H
     have A37 := Aside0.mk A370
     clear A370
     by_cases c38 : t407 = true
     rotate_left
     ·
      replace c38 := Bool.eq_false_iff.mpr c38
      subst c38
      have H1 : (laws_FnStages.j1 k1 l0 t395 (decide ((t398.length : Int) > 40))) = some r := by rw [if_neg (show ¬ (false = true) by decide)] at H; exact H
      clear H
      have H := H1
      clear H1
      have H' := Aside0.mk H
      clear H
      go_wp2_with (first | ((with_reducible refine gate_callee (f := 64) rfl ?_); refine goesL_ (some 54) rfl rfl Try.func64 (by kernel_rfl) rfl #[.slice Ao7 t395.length co7] rfl (by (try simp only [List.map_toArray, List.map_cons, List.map_nil]); first | done | rfl | (simp only [List.length_drop, List.length_take]; rfl)) ?_; (with_reducible refine (impl_ArePaths.calls k1 _ _ t395 false _ ?side1 ?side2 A37.out).mono ?_); (case side1 => repeat (first | exact (Kd.R_reads' HO_3.out).2.2 | (with_reducible refine Kd.C_alloc ?_ _) | (with_reducible refine Kd.C_drewN ?_ _) | (with_reducible refine Kd.C_drew ?_))); (case side2 => exact (Kd.R_reads' HO_3.out).2.1); rintro e w47 ⟨rfl, hb⟩; refine ⟨_, rfl, ?_⟩; have n0_ := Aside0.mk (Kd.R_below (by (with_reducible repeat (first | apply Kd.R_alloc | apply Kd.R_drewN | apply Kd.R_drew)); exact HO_3.out) hb); have n1_ := Aside0.mk (Kd.S_below (by (with_reducible repeat (first | apply Kd.S_alloc | apply Kd.S_drewN | apply Kd.S_drew)); exact HO_4.out) hb); have n2_ := Aside0.mk (below_step (by repeat (first | (with_reducible first | exact HB.out | apply below_alloc | apply pw_below_drewN | apply below_drew1) | exact HB.out)) hb); clear HO_3; clear HO_4; clear HB; have HO_3 := n0_; have HO_4 := n1_; have HB := n2_; clear n0_ n1_ n2_; (try clear hb); (try clear hb2); (try clear hk); (try clear hi)))
      go_meet
      case rel => exact ⟨_, (decide ((t398.length : Int) > 40)), (by first | rfl | (simp; done) | (simp [*]; done)), H', ⟨by have := HK1.out; first | omega | exact Nat.le_refl _⟩, ⟨by (with_reducible repeat (first | apply Kd.R_alloc | apply Kd.R_drewN | apply Kd.R_drew)); exact HO_3.out⟩, ⟨by repeat (first | (with_reducible first | exact HB.out | apply below_alloc | apply pw_below_drewN | apply below_drew1) | exact HB.out)⟩⟩
     subst c38
     have H1 : (if (t398.length : Int) < 40 then ((impl_Covers.f k1 t395 t398).bind fun t408 => (if t408 = true then (laws_FnStages.j1 k1 l0 t395 (decide ((t398.length : Int) > 40))) else (laws_FnStages.j1 k1 l0 t395 true))) else (laws_FnStages.j1 k1 l0 t395 (decide ((t398.length : Int) > 40)))) = some r := by rw [if_pos rfl] at H; exact H
     clear H
     have H := H1
     clear H1
     by_cases c39 : (t398.length : Int) < 40
     rotate_left
     ·
      rw [if_neg c39] at H
      have c39b0 : decide ((t398.length : Int) < 40) = false := decide_eq_false c39
      have c39b1 : decide (t398.length < 40) = false := decide_eq_false (by omega)
      clear c39
      (first | rw [c39b0] | (simp only [i64_w, i32_w]; rw [c39b0]) | skip)
      have H' := Aside0.mk H
      clear H
      go_wp2_with (first | ((with_reducible refine gate_callee (f := 64) rfl ?_); refine goesL_ (some 54) rfl rfl Try.func64 (by kernel_rfl) rfl #[.slice Ao7 t395.length co7] rfl (by (try simp only [List.map_toArray, List.map_cons, List.map_nil]); first | done | rfl | (simp only [List.length_drop, List.length_take]; rfl)) ?_; (with_reducible refine (impl_ArePaths.calls k1 _ _ t395 true _ ?side1 ?side2 A37.out).mono ?_); (case side1 => repeat (first | exact (Kd.R_reads' HO_3.out).2.2 | (with_reducible refine Kd.C_alloc ?_ _) | (with_reducible refine Kd.C_drewN ?_ _) | (with_reducible refine Kd.C_drew ?_))); (case side2 => exact (Kd.R_reads' HO_3.out).2.1); rintro e w46 ⟨rfl, hb⟩; refine ⟨_, rfl, ?_⟩; have n0_ := Aside0.mk (Kd.R_below (by (with_reducible repeat (first | apply Kd.R_alloc | apply Kd.R_drewN | apply Kd.R_drew)); exact HO_3.out) hb); have n1_ := Aside0.mk (Kd.S_below (by (with_reducible repeat (first | apply Kd.S_alloc | apply Kd.S_drewN | apply Kd.S_drew)); exact HO_4.out) hb); have n2_ := Aside0.mk (below_step (by repeat (first | (with_reducible first | exact HB.out | apply below_alloc | apply pw_below_drewN | apply below_drew1) | exact HB.out)) hb); clear HO_3; clear HO_4; clear HB; have HO_3 := n0_; have HO_4 := n1_; have HB := n2_; clear n0_ n1_ n2_; (try clear hb); (try clear hb2); (try clear hk); (try clear hi)))
      go_meet
      case rel => exact ⟨_, (decide ((t398.length : Int) > 40)), (by first | rfl | (simp; done) | (simp [*]; done)), H', ⟨by have := HK1.out; first | omega | exact Nat.le_refl _⟩, ⟨by (with_reducible repeat (first | apply Kd.R_alloc | apply Kd.R_drewN | apply Kd.R_drew)); exact HO_3.out⟩, ⟨by repeat (first | (with_reducible first | exact HB.out | apply below_alloc | apply pw_below_drewN | apply below_drew1) | exact HB.out)⟩⟩
     rw [if_pos c39] at H
     have c39b0 : decide ((t398.length : Int) < 40) = true := decide_eq_true c39
     have c39b1 : decide (t398.length < 40) = true := decide_eq_true (by omega)
     clear c39
     (first | rw [c39b0] | (simp only [i64_w, i32_w]; rw [c39b0]) | skip)
     replace H := Option.bind_eq_some_iff.mp H
     obtain ⟨t408, A400, H⟩ := H
     try dsimp only at H
     have A40 := Aside0.mk A400
     clear A400
     by_cases c41 : t408 = true
     ·
      subst c41
      have H1 : (laws_FnStages.j1 k1 l0 t395 (decide ((t398.length : Int) > 40))) = some r := by rw [if_pos rfl] at H; exact H
      clear H
      have H := H1
      clear H1
      have H' := Aside0.mk H
      clear H
      go_wp2_with (first | ((with_reducible refine gate_callee (f := 64) rfl ?_); refine goesL_ (some 54) rfl rfl Try.func64 (by kernel_rfl) rfl #[.slice Ao7 t395.length co7] rfl (by (try simp only [List.map_toArray, List.map_cons, List.map_nil]); first | done | rfl | (simp only [List.length_drop, List.length_take]; rfl)) ?_; (with_reducible refine (impl_ArePaths.calls k1 _ _ t395 true _ ?side1 ?side2 A37.out).mono ?_); (case side1 => repeat (first | exact (Kd.R_reads' HO_3.out).2.2 | (with_reducible refine Kd.C_alloc ?_ _) | (with_reducible refine Kd.C_drewN ?_ _) | (with_reducible refine Kd.C_drew ?_))); (case side2 => exact (Kd.R_reads' HO_3.out).2.1); rintro e w42 ⟨rfl, hb⟩; refine ⟨_, rfl, ?_⟩; have n0_ := Aside0.mk (Kd.R_below (by (with_reducible repeat (first | apply Kd.R_alloc | apply Kd.R_drewN | apply Kd.R_drew)); exact HO_3.out) hb); have n1_ := Aside0.mk (Kd.S_below (by (with_reducible repeat (first | apply Kd.S_alloc | apply Kd.S_drewN | apply Kd.S_drew)); exact HO_4.out) hb); have n2_ := Aside0.mk (below_step (by repeat (first | (with_reducible first | exact HB.out | apply below_alloc | apply pw_below_drewN | apply below_drew1) | exact HB.out)) hb); clear HO_3; clear HO_4; clear HB; have HO_3 := n0_; have HO_4 := n1_; have HB := n2_; clear n0_ n1_ n2_; (try clear hb); (try clear hb2); (try clear hk); (try clear hi)) | (go_at_call 34; (with_reducible refine (impl_Covers.calls k1 _ _ t395 _ _ t398 true _ ?side1 ?side2 ?side3 ?side4 A40.out).mono ?_); (case side1 => repeat (first | exact (Kd.R_reads' HO_3.out).2.2 | (with_reducible refine Kd.C_alloc ?_ _) | (with_reducible refine Kd.C_drewN ?_ _) | (with_reducible refine Kd.C_drew ?_))); (case side2 => exact (Kd.R_reads' HO_3.out).2.1); (case side3 => repeat (first | exact (Kd.S_reads' HO_4.out).2.2 | (with_reducible refine Kd.C_alloc ?_ _) | (with_reducible refine Kd.C_drewN ?_ _) | (with_reducible refine Kd.C_drew ?_))); (case side4 => exact (Kd.S_reads' HO_4.out).2.1); rintro e w43 ⟨rfl, hb⟩; have n0_ := Aside0.mk (Kd.R_below (by (with_reducible repeat (first | apply Kd.R_alloc | apply Kd.R_drewN | apply Kd.R_drew)); exact HO_3.out) hb); have n1_ := Aside0.mk (Kd.S_below (by (with_reducible repeat (first | apply Kd.S_alloc | apply Kd.S_drewN | apply Kd.S_drew)); exact HO_4.out) hb); have n2_ := Aside0.mk (below_step (by repeat (first | (with_reducible first | exact HB.out | apply below_alloc | apply pw_below_drewN | apply below_drew1) | exact HB.out)) hb); clear HO_3; clear HO_4; clear HB; have HO_3 := n0_; have HO_4 := n1_; have HB := n2_; clear n0_ n1_ n2_; (try clear hb); (try clear hb2); (try clear hk); (try clear hi)))
      go_meet
      case rel => exact ⟨_, (decide ((t398.length : Int) > 40)), (by first | rfl | (simp; done) | (simp [*]; done)), H', ⟨by have := HK1.out; first | omega | exact Nat.le_refl _⟩, ⟨by (with_reducible repeat (first | apply Kd.R_alloc | apply Kd.R_drewN | apply Kd.R_drew)); exact HO_3.out⟩, ⟨by repeat (first | (with_reducible first | exact HB.out | apply below_alloc | apply pw_below_drewN | apply below_drew1) | exact HB.out)⟩⟩
     replace c41 := Bool.eq_false_iff.mpr c41
     subst c41
     have H1 : (laws_FnStages.j1 k1 l0 t395 true) = some r := by rw [if_neg (show ¬ (false = true) by decide)] at H; exact H
     clear H
     have H := H1
     clear H1
     have H' := Aside0.mk H
     clear H
     go_wp2_with (first | ((with_reducible refine gate_callee (f := 64) rfl ?_); refine goesL_ (some 54) rfl rfl Try.func64 (by kernel_rfl) rfl #[.slice Ao7 t395.length co7] rfl (by (try simp only [List.map_toArray, List.map_cons, List.map_nil]); first | done | rfl | (simp only [List.length_drop, List.length_take]; rfl)) ?_; (with_reducible refine (impl_ArePaths.calls k1 _ _ t395 true _ ?side1 ?side2 A37.out).mono ?_); (case side1 => repeat (first | exact (Kd.R_reads' HO_3.out).2.2 | (with_reducible refine Kd.C_alloc ?_ _) | (with_reducible refine Kd.C_drewN ?_ _) | (with_reducible refine Kd.C_drew ?_))); (case side2 => exact (Kd.R_reads' HO_3.out).2.1); rintro e w44 ⟨rfl, hb⟩; refine ⟨_, rfl, ?_⟩; have n0_ := Aside0.mk (Kd.R_below (by (with_reducible repeat (first | apply Kd.R_alloc | apply Kd.R_drewN | apply Kd.R_drew)); exact HO_3.out) hb); have n1_ := Aside0.mk (Kd.S_below (by (with_reducible repeat (first | apply Kd.S_alloc | apply Kd.S_drewN | apply Kd.S_drew)); exact HO_4.out) hb); have n2_ := Aside0.mk (below_step (by repeat (first | (with_reducible first | exact HB.out | apply below_alloc | apply pw_below_drewN | apply below_drew1) | exact HB.out)) hb); clear HO_3; clear HO_4; clear HB; have HO_3 := n0_; have HO_4 := n1_; have HB := n2_; clear n0_ n1_ n2_; (try clear hb); (try clear hb2); (try clear hk); (try clear hi)) | (go_at_call 34; (with_reducible refine (impl_Covers.calls k1 _ _ t395 _ _ t398 false _ ?side1 ?side2 ?side3 ?side4 A40.out).mono ?_); (case side1 => repeat (first | exact (Kd.R_reads' HO_3.out).2.2 | (with_reducible refine Kd.C_alloc ?_ _) | (with_reducible refine Kd.C_drewN ?_ _) | (with_reducible refine Kd.C_drew ?_))); (case side2 => exact (Kd.R_reads' HO_3.out).2.1); (case side3 => repeat (first | exact (Kd.S_reads' HO_4.out).2.2 | (with_reducible refine Kd.C_alloc ?_ _) | (with_reducible refine Kd.C_drewN ?_ _) | (with_reducible refine Kd.C_drew ?_))); (case side4 => exact (Kd.S_reads' HO_4.out).2.1); rintro e w45 ⟨rfl, hb⟩; have n0_ := Aside0.mk (Kd.R_below (by (with_reducible repeat (first | apply Kd.R_alloc | apply Kd.R_drewN | apply Kd.R_drew)); exact HO_3.out) hb); have n1_ := Aside0.mk (Kd.S_below (by (with_reducible repeat (first | apply Kd.S_alloc | apply Kd.S_drewN | apply Kd.S_drew)); exact HO_4.out) hb); have n2_ := Aside0.mk (below_step (by repeat (first | (with_reducible first | exact HB.out | apply below_alloc | apply pw_below_drewN | apply below_drew1) | exact HB.out)) hb); clear HO_3; clear HO_4; clear HB; have HO_3 := n0_; have HO_4 := n1_; have HB := n2_; clear n0_ n1_ n2_; (try clear hb); (try clear hb2); (try clear hk); (try clear hi)))
     go_meet
     case rel => exact ⟨_, (true), (by first | rfl | (simp; done) | (simp [*]; done)), H', ⟨by have := HK1.out; first | omega | exact Nat.le_refl _⟩, ⟨by (with_reducible repeat (first | apply Kd.R_alloc | apply Kd.R_drewN | apply Kd.R_drew)); exact HO_3.out⟩, ⟨by repeat (first | (with_reducible first | exact HB.out | apply below_alloc | apply pw_below_drewN | apply below_drew1) | exact HB.out)⟩⟩
    case rest =>
     clear HC35
     try clear c1
     try clear p2
     try clear c3
     try clear c4
     try clear p4
     try clear q4
     try clear hx4
     try clear c6
     try clear p6
     try clear c9
     try clear c9b0
     try clear c10
     try clear c12
     try clear c37
     try clear c38
     try clear c39
     try clear c39b0
     try clear c39b1
     try clear c40
     try clear p40
     try clear q40
     try clear hx40
     try clear c41
     try clear hx401_0
     try clear hx403_0
     try clear p401
     try clear p403
     try clear q401
     try clear q403
     obtain ⟨kq, x70_34, rfl, HA, HJ34, HO_3, HB⟩ := hcut
     cases kq with
     | zero => exact absurd HA.out (by simp [laws_FnStages.j1])
     | succ kj34 =>
      have H := HA.out
      clear HA
      simp only [laws_FnStages.j1] at H
      by_cases c48 : x70_34 = true
      ·
       subst c48
       have H1 : (some false) = some r := by rw [if_pos rfl] at H; exact H
       clear H
       have H := H1
       clear H1
       obtain rfl := Option.some.inj H
       go_wp2
       go_ret
       exact ⟨by first | rfl | (simp [errW_none, errW_some] <;> rfl) | (simp [*, errW_none, errW_some] <;> rfl), by repeat (first | (with_reducible first | exact HB.out | apply below_alloc | apply pw_below_drewN | apply below_drew1) | exact HB.out)⟩
      replace c48 := Bool.eq_false_iff.mpr c48
      subst c48
      have H1 : ((impl_CoverOf.f kj34 t395).bind fun t409 => ((impl_ArePaths.f kj34 t395).bind fun t412 => ((impl_Covers.f kj34 t395 t409).bind fun t413 => (if (t412 != t413) = true then (laws_FnStages.j2 kj34 l0 true) else (laws_FnStages.j2 kj34 l0 (decide ((t409.length : Int) > (t395.length : Int)))))))) = some r := by rw [if_neg (show ¬ (false = true) by decide)] at H; exact H
      clear H
      have H := H1
      clear H1
      replace H := Option.bind_eq_some_iff.mp H
      obtain ⟨t409, A490, H⟩ := H
      try dsimp only at H
      have A49 := Aside0.mk A490
      clear A490
      have HC50 := Aside0.mk H
      clear H
      go_upto_region 13 with (first | ((with_reducible refine gate_callee (f := 41) rfl ?_); refine goesL_ (some 72) rfl rfl Try.func41 (by kernel_rfl) rfl #[.slice Ao7 t395.length co7] rfl (by (try simp only [List.map_toArray, List.map_cons, List.map_nil]); first | done | rfl | (simp only [List.length_drop, List.length_take]; rfl)) ?_; (with_reducible refine (impl_CoverOf.calls kj34 _ _ t395 t409 _ ?side1 ?side2 A49.out).mono ?_); (case side1 => repeat (first | exact (Kd.R_reads' HO_3.out).2.2 | (with_reducible refine Kd.C_alloc ?_ _) | (with_reducible refine Kd.C_drewN ?_ _) | (with_reducible refine Kd.C_drew ?_))); (case side2 => exact (Kd.R_reads' HO_3.out).2.1); rintro e w51 ⟨v410, rfl, ho0, hb⟩; refine ⟨_, rfl, ?_⟩; have n0_ := Aside0.mk (Kd.R_below (by (with_reducible repeat (first | apply Kd.R_alloc | apply Kd.R_drewN | apply Kd.R_drew)); exact HO_3.out) hb); have n1_ := Aside0.mk (Kd.S_lower ho0 (below_size (by repeat (first | (with_reducible first | exact HB.out | apply below_alloc | apply pw_below_drewN | apply below_drew1) | exact HB.out)))); have n2_ := Aside0.mk (below_step (by repeat (first | (with_reducible first | exact HB.out | apply below_alloc | apply pw_below_drewN | apply below_drew1) | exact HB.out)) hb); clear HO_3; clear HB; have HO_3 := n0_; have HO411 := n1_; have HB := n2_; clear n0_ n1_ n2_; (try clear hb); (try clear hb2); (try clear hk); (try clear hi); (try clear ho0)))
      (try simp only [Act.put, List.setIfInBounds_toArray, List.set_cons_zero, List.set_cons_succ])
      go_cut [85] (fun v85 wc => ∃ (kq : Nat) (x85_49 : Bool), v85 = .bool x85_49 ∧ Aside0 (laws_FnStages.j2 kq l0 x85_49 = some r) ∧ Aside0 (kq ≤ kj34) ∧ Aside0 (Below w.heap.size w wc))
      case first =>
       have H := HC50.out
       clear HC50
       replace H := Option.bind_eq_some_iff.mp H
       obtain ⟨t412, A520, H⟩ := H
       try dsimp only at H
       have A52 := Aside0.mk A520
       clear A520
       replace H := Option.bind_eq_some_iff.mp H
       obtain ⟨t413, A530, H⟩ := H
       try dsimp only at H
       have A53 := Aside0.mk A530
       clear A530
       by_cases c54 : (t412 != t413) = true
       ·
        rw [if_pos c54] at H
        have c54b0 : (t412 != t413) = true := c54
        (try (have c54b1 : decide (t412 = t413) = false := by simpa using c54))
        (try (have c54b2 : (t412 == t413) = false := by simpa using c54))
        (try (have c54b3 : ¬ (t412 = t413) := by simpa using c54))
        clear c54
        (first | rw [c54b0] | (simp only [i64_w, i32_w]; rw [c54b0]) | skip)
        have H' := Aside0.mk H
        clear H
        go_wp2_with (first | ((with_reducible refine gate_callee (f := 64) rfl ?_); refine goesL_ (some 74) rfl rfl Try.func64 (by kernel_rfl) rfl #[.slice Ao7 t395.length co7] rfl (by (try simp only [List.map_toArray, List.map_cons, List.map_nil]); first | done | rfl | (simp only [List.length_drop, List.length_take]; rfl)) ?_; (with_reducible refine (impl_ArePaths.calls kj34 _ _ t395 t412 _ ?side1 ?side2 A52.out).mono ?_); (case side1 => repeat (first | exact (Kd.R_reads' HO_3.out).2.2 | (with_reducible refine Kd.C_alloc ?_ _) | (with_reducible refine Kd.C_drewN ?_ _) | (with_reducible refine Kd.C_drew ?_))); (case side2 => exact (Kd.R_reads' HO_3.out).2.1); rintro e w55 ⟨rfl, hb⟩; refine ⟨_, rfl, ?_⟩; have n0_ := Aside0.mk (Kd.R_below (by (with_reducible repeat (first | apply Kd.R_alloc | apply Kd.R_drewN | apply Kd.R_drew)); exact HO_3.out) hb); have n1_ := Aside0.mk (Kd.S_below (by (with_reducible repeat (first | apply Kd.S_alloc | apply Kd.S_drewN | apply Kd.S_drew)); exact HO411.out) hb); have n2_ := Aside0.mk (below_step (by repeat (first | (with_reducible first | exact HB.out | apply below_alloc | apply pw_below_drewN | apply below_drew1) | exact HB.out)) hb); clear HO_3; clear HO411; clear HB; have HO_3 := n0_; have HO411 := n1_; have HB := n2_; clear n0_ n1_ n2_; (try clear hb); (try clear hb2); (try clear hk); (try clear hi); obtain ⟨Ao56, co56, eo56⟩ := Kd.S_slice HO411.out; subst eo56) | ((with_reducible refine gate_callee (f := 34) rfl ?_); refine goesL_ (some 77) rfl rfl Try.func34 (by kernel_rfl) rfl #[.slice Ao7 t395.length co7, .slice Ao56 t409.length co56] rfl (by (try simp only [List.map_toArray, List.map_cons, List.map_nil]); first | done | rfl | (simp only [List.length_drop, List.length_take]; rfl)) ?_; (with_reducible refine (impl_Covers.calls kj34 _ _ t395 _ _ t409 t413 _ ?side1 ?side2 ?side3 ?side4 A53.out).mono ?_); (case side1 => repeat (first | exact (Kd.R_reads' HO_3.out).2.2 | (with_reducible refine Kd.C_alloc ?_ _) | (with_reducible refine Kd.C_drewN ?_ _) | (with_reducible refine Kd.C_drew ?_))); (case side2 => exact (Kd.R_reads' HO_3.out).2.1); (case side3 => repeat (first | exact (Kd.S_reads' HO411.out).2.2 | (with_reducible refine Kd.C_alloc ?_ _) | (with_reducible refine Kd.C_drewN ?_ _) | (with_reducible refine Kd.C_drew ?_))); (case side4 => exact (Kd.S_reads' HO411.out).2.1); rintro e w57 ⟨rfl, hb⟩; refine ⟨_, rfl, ?_⟩; have n0_ := Aside0.mk (Kd.R_below (by (with_reducible repeat (first | apply Kd.R_alloc | apply Kd.R_drewN | apply Kd.R_drew)); exact HO_3.out) hb); have n1_ := Aside0.mk (Kd.S_below (by (with_reducible repeat (first | apply Kd.S_alloc | apply Kd.S_drewN | apply Kd.S_drew)); exact HO411.out) hb); have n2_ := Aside0.mk (below_step (by repeat (first | (with_reducible first | exact HB.out | apply below_alloc | apply pw_below_drewN | apply below_drew1) | exact HB.out)) hb); clear HO_3; clear HO411; clear HB; have HO_3 := n0_; have HO411 := n1_; have HB := n2_; clear n0_ n1_ n2_; (try clear hb); (try clear hb2); (try clear hk); (try clear hi)))
        go_meet
        case rel => exact ⟨_, (true), (by first | rfl | (simp; done) | (simp [*]; done)), H', ⟨by have := HK1.out; have := HJ34.out; first | omega | exact Nat.le_refl _⟩, ⟨by repeat (first | (with_reducible first | exact HB.out | apply below_alloc | apply pw_below_drewN | apply below_drew1) | exact HB.out)⟩⟩
       rw [if_neg c54] at H
       have c54b0 : (t412 != t413) = false := by simpa using c54
       (try (have c54b1 : decide (t412 = t413) = true := by simpa using c54))
       (try (have c54b2 : (t412 == t413) = true := by simpa using c54))
       clear c54
       (first | rw [c54b0] | (simp only [i64_w, i32_w]; rw [c54b0]) | skip)
       have H' := Aside0.mk H
       clear H
       go_wp2_with (first | ((with_reducible refine gate_callee (f := 64) rfl ?_); refine goesL_ (some 74) rfl rfl Try.func64 (by kernel_rfl) rfl #[.slice Ao7 t395.length co7] rfl (by (try simp only [List.map_toArray, List.map_cons, List.map_nil]); first | done | rfl | (simp only [List.length_drop, List.length_take]; rfl)) ?_; (with_reducible refine (impl_ArePaths.calls kj34 _ _ t395 t412 _ ?side1 ?side2 A52.out).mono ?_); (case side1 => repeat (first | exact (Kd.R_reads' HO_3.out).2.2 | (with_reducible refine Kd.C_alloc ?_ _) | (with_reducible refine Kd.C_drewN ?_ _) | (with_reducible refine Kd.C_drew ?_))); (case side2 => exact (Kd.R_reads' HO_3.out).2.1); rintro e w58 ⟨rfl, hb⟩; refine ⟨_, rfl, ?_⟩; have n0_ := Aside0.mk (Kd.R_below (by (with_reducible repeat (first | apply Kd.R_alloc | apply Kd.R_drewN | apply Kd.R_drew)); exact HO_3.out) hb); have n1_ := Aside0.mk (Kd.S_below (by (with_reducible repeat (first | apply Kd.S_alloc | apply Kd.S_drewN | apply Kd.S_drew)); exact HO411.out) hb); have n2_ := Aside0.mk (below_step (by repeat (first | (with_reducible first | exact HB.out | apply below_alloc | apply pw_below_drewN | apply below_drew1) | exact HB.out)) hb); clear HO_3; clear HO411; clear HB; have HO_3 := n0_; have HO411 := n1_; have HB := n2_; clear n0_ n1_ n2_; (try clear hb); (try clear hb2); (try clear hk); (try clear hi); obtain ⟨Ao59, co59, eo59⟩ := Kd.S_slice HO411.out; subst eo59) | ((with_reducible refine gate_callee (f := 34) rfl ?_); refine goesL_ (some 77) rfl rfl Try.func34 (by kernel_rfl) rfl #[.slice Ao7 t395.length co7, .slice Ao59 t409.length co59] rfl (by (try simp only [List.map_toArray, List.map_cons, List.map_nil]); first | done | rfl | (simp only [List.length_drop, List.length_take]; rfl)) ?_; (with_reducible refine (impl_Covers.calls kj34 _ _ t395 _ _ t409 t413 _ ?side1 ?side2 ?side3 ?side4 A53.out).mono ?_); (case side1 => repeat (first | exact (Kd.R_reads' HO_3.out).2.2 | (with_reducible refine Kd.C_alloc ?_ _) | (with_reducible refine Kd.C_drewN ?_ _) | (with_reducible refine Kd.C_drew ?_))); (case side2 => exact (Kd.R_reads' HO_3.out).2.1); (case side3 => repeat (first | exact (Kd.S_reads' HO411.out).2.2 | (with_reducible refine Kd.C_alloc ?_ _) | (with_reducible refine Kd.C_drewN ?_ _) | (with_reducible refine Kd.C_drew ?_))); (case side4 => exact (Kd.S_reads' HO411.out).2.1); rintro e w60 ⟨rfl, hb⟩; refine ⟨_, rfl, ?_⟩; have n0_ := Aside0.mk (Kd.R_below (by (with_reducible repeat (first | apply Kd.R_alloc | apply Kd.R_drewN | apply Kd.R_drew)); exact HO_3.out) hb); have n1_ := Aside0.mk (Kd.S_below (by (with_reducible repeat (first | apply Kd.S_alloc | apply Kd.S_drewN | apply Kd.S_drew)); exact HO411.out) hb); have n2_ := Aside0.mk (below_step (by repeat (first | (with_reducible first | exact HB.out | apply below_alloc | apply pw_below_drewN | apply below_drew1) | exact HB.out)) hb); clear HO_3; clear HO411; clear HB; have HO_3 := n0_; have HO411 := n1_; have HB := n2_; clear n0_ n1_ n2_; (try clear hb); (try clear hb2); (try clear hk); (try clear hi)))
       go_meet
       case rel => exact ⟨_, (decide ((t409.length : Int) > (t395.length : Int))), (by first | rfl | (simp; done) | (simp [*]; done)), H', ⟨by have := HK1.out; have := HJ34.out; first | omega | exact Nat.le_refl _⟩, ⟨by repeat (first | (with_reducible first | exact HB.out | apply below_alloc | apply pw_below_drewN | apply below_drew1) | exact HB.out)⟩⟩
      case rest =>
       clear HC50
       try clear c1
       try clear p2
       try clear c3
       try clear c4
       try clear p4
       try clear q4
       try clear hx4
       try clear c5
       try clear c6
       try clear p6
       try clear c9
       try clear c9b0
       try clear c10
       try clear c12
       try clear c34
       try clear c37
       try clear c38
       try clear c39
       try clear c39b0
       try clear c39b1
       try clear c40
       try clear p40
       try clear q40
       try clear hx40
       try clear c41
       try clear c48
       try clear c54
       try clear c54b0
       try clear c54b1
       try clear c54b2
       try clear hx401_0
       try clear hx403_0
       try clear p2
       try clear p4
       try clear p40
       try clear p401
       try clear p403
       try clear p6
       try clear q4
       try clear q40
       try clear q401
       try clear q403
       obtain ⟨kq, x85_49, rfl, HA, HJ49, HB⟩ := hcut
       cases kq with
       | zero => exact absurd HA.out (by simp [laws_FnStages.j2])
       | succ kj49 =>
        have H := HA.out
        clear HA
        simp only [laws_FnStages.j2] at H
        by_cases c61 : x85_49 = true
        ·
         subst c61
         have H1 : (some false) = some r := by rw [if_pos rfl] at H; exact H
         clear H
         have H := H1
         clear H1
         obtain rfl := Option.some.inj H
         go_wp2
         go_ret
         exact ⟨by first | rfl | (simp [errW_none, errW_some] <;> rfl) | (simp [*, errW_none, errW_some] <;> rfl), by repeat (first | (with_reducible first | exact HB.out | apply below_alloc | apply pw_below_drewN | apply below_drew1) | exact HB.out)⟩
        replace c61 := Bool.eq_false_iff.mpr c61
        subst c61
        have H1 : ((spec_DrawAddToStage.f kj49 l0).bind fun bt414 => ((impl_AddToStage.f kj49 bt414.1 bt414.2).bind fun t420 => ((laws_within.f kj49 bt414.2 t420).bind fun t423 => (if t423 = true then ((impl_IsTogether.f kj49 bt414.1 bt414.2).bind fun t424 => (if t424 = true then ((impl_IsFullStage.f kj49 bt414.1 t420).bind fun t425 => (some t425)) else (some true))) else (some false))))) = some r := by rw [if_neg (show ¬ (false = true) by decide)] at H; exact H
        clear H
        have H := H1
        clear H1
        replace H := Option.bind_eq_some_iff.mp H
        obtain ⟨⟨t414, t415⟩, A620, H⟩ := H
        try dsimp only at H
        have A62 := Aside0.mk A620
        clear A620
        replace H := Option.bind_eq_some_iff.mp H
        obtain ⟨t420, A630, H⟩ := H
        try dsimp only at H
        have A63 := Aside0.mk A630
        clear A630
        replace H := Option.bind_eq_some_iff.mp H
        obtain ⟨t423, A640, H⟩ := H
        try dsimp only at H
        have A64 := Aside0.mk A640
        clear A640
        by_cases c65 : t423 = true
        rotate_left
        ·
         replace c65 := Bool.eq_false_iff.mpr c65
         subst c65
         have H1 : (some false) = some r := by rw [if_neg (show ¬ (false = true) by decide)] at H; exact H
         clear H
         have H := H1
         clear H1
         obtain rfl := Option.some.inj H
         go_wp2_with (first | ((with_reducible refine gate_callee (f := 65) rfl ?_); refine goesL_ (some 88) rfl rfl Try.func65 (by kernel_rfl) rfl #[.slice A0 l0.length c0] rfl (by (try simp only [List.map_toArray, List.map_cons, List.map_nil]); first | done | rfl | (simp only [List.length_drop, List.length_take]; rfl)) ?_; (with_reducible refine (spec_DrawAddToStage.calls kj49 _ _ l0 t414 t415 _ ?side1 ?side2 A62.out).mono ?_); (case side1 => repeat (first | exact (Kd.C_below HR0.out HB.out) | (with_reducible refine Kd.C_alloc ?_ _) | (with_reducible refine Kd.C_drewN ?_ _) | (with_reducible refine Kd.C_drew ?_))); (case side2 => exact HC0.out); rintro e w82 ⟨v416, v418, rfl, ho0, ho1, hb⟩; refine ⟨_, rfl, ?_⟩; have n0_ := Aside0.mk (Kd.R_lower ho0 (below_size (by repeat (first | (with_reducible first | exact HB.out | apply below_alloc | apply pw_below_drewN | apply below_drew1) | exact HB.out)))); have n1_ := Aside0.mk (Kd.R_lower ho1 (below_size (by repeat (first | (with_reducible first | exact HB.out | apply below_alloc | apply pw_below_drewN | apply below_drew1) | exact HB.out)))); have n2_ := Aside0.mk (below_step (by repeat (first | (with_reducible first | exact HB.out | apply below_alloc | apply pw_below_drewN | apply below_drew1) | exact HB.out)) hb); clear HB; have HO417 := n0_; have HO419 := n1_; have HB := n2_; clear n0_ n1_ n2_; (try clear hb); (try clear hb2); (try clear hk); (try clear hi); (try clear ho0); (try clear ho1); obtain ⟨Ao83, co83, eo83⟩ := Kd.R_slice HO417.out; subst eo83; obtain ⟨Ao84, co84, eo84⟩ := Kd.R_slice HO419.out; subst eo84) | ((with_reducible refine gate_callee (f := 39) rfl ?_); refine goesL_ (some 93) rfl rfl Try.func39 (by kernel_rfl) rfl #[.slice Ao83 t414.length co83, .slice Ao84 t415.length co84] rfl (by (try simp only [List.map_toArray, List.map_cons, List.map_nil]); first | done | rfl | (simp only [List.length_drop, List.length_take]; rfl)) ?_; (with_reducible refine (impl_AddToStage.calls kj49 _ _ t414 _ _ t415 t420 _ ?side1 ?side2 ?side3 ?side4 A63.out).mono ?_); (case side1 => repeat (first | exact (Kd.R_reads' HO417.out).2.2 | (with_reducible refine Kd.C_alloc ?_ _) | (with_reducible refine Kd.C_drewN ?_ _) | (with_reducible refine Kd.C_drew ?_))); (case side2 => exact (Kd.R_reads' HO417.out).2.1); (case side3 => repeat (first | exact (Kd.R_reads' HO419.out).2.2 | (with_reducible refine Kd.C_alloc ?_ _) | (with_reducible refine Kd.C_drewN ?_ _) | (with_reducible refine Kd.C_drew ?_))); (case side4 => exact (Kd.R_reads' HO419.out).2.1); rintro e w85 ⟨v421, rfl, ho0, hb⟩; refine ⟨_, rfl, ?_⟩; have n0_ := Aside0.mk (Kd.R_below (by (with_reducible repeat (first | apply Kd.R_alloc | apply Kd.R_drewN | apply Kd.R_drew)); exact HO417.out) hb); have n1_ := Aside0.mk (Kd.R_elder' (by (with_reducible repeat (first | apply Kd.R_alloc | apply Kd.R_drewN | apply Kd.R_drew)); exact HO419.out) (Kd.R_base ho0) hb); have n2_ := Aside0.mk (Kd.R_lower (Kd.R_new' ho0 (Kd.R_lt (by (with_reducible repeat (first | apply Kd.R_alloc | apply Kd.R_drewN | apply Kd.R_drew)); exact HO419.out))) (below_size (by repeat (first | (with_reducible first | exact HB.out | apply below_alloc | apply pw_below_drewN | apply below_drew1) | exact HB.out)))); have n3_ := Aside0.mk (below_step (by repeat (first | (with_reducible first | exact HB.out | apply below_alloc | apply pw_below_drewN | apply below_drew1) | exact HB.out)) hb); clear HO417; clear HO419; clear HB; have HO417 := n0_; have HO419 := n1_; have HO422 := n2_; have HB := n3_; clear n0_ n1_ n2_ n3_; (try clear hb); (try clear hb2); (try clear hk); (try clear hi); (try clear ho0); obtain ⟨Ao86, co86, eo86⟩ := Kd.R_slice HO422.out; subst eo86) | ((with_reducible refine gate_callee (f := 58) rfl ?_); refine goesL_ (some 96) rfl rfl Try.func58 (by kernel_rfl) rfl #[.slice Ao84 t415.length co84, .slice Ao86 t420.length co86] rfl (by (try simp only [List.map_toArray, List.map_cons, List.map_nil]); first | done | rfl | (simp only [List.length_drop, List.length_take]; rfl)) ?_; (with_reducible refine (laws_within.calls kj49 _ _ t415 _ _ t420 false _ ?side1 ?side2 ?side3 ?side4 A64.out).mono ?_); (case side1 => repeat (first | exact (Kd.R_reads' HO419.out).2.2 | (with_reducible refine Kd.C_alloc ?_ _) | (with_reducible refine Kd.C_drewN ?_ _) | (with_reducible refine Kd.C_drew ?_))); (case side2 => exact (Kd.R_reads' HO419.out).2.1); (case side3 => repeat (first | exact (Kd.R_reads' HO422.out).2.2 | (with_reducible refine Kd.C_alloc ?_ _) | (with_reducible refine Kd.C_drewN ?_ _) | (with_reducible refine Kd.C_drew ?_))); (case side4 => exact (Kd.R_reads' HO422.out).2.1); rintro e w' ⟨rfl, ⟨nd, rfl⟩⟩; refine ⟨_, rfl, ?_⟩))
         go_ret
         exact ⟨by first | rfl | (simp [errW_none, errW_some] <;> rfl) | (simp [*, errW_none, errW_some] <;> rfl), by repeat (first | (with_reducible first | exact HB.out | apply below_alloc | apply pw_below_drewN | apply below_drew1) | exact HB.out)⟩
        subst c65
        have H1 : ((impl_IsTogether.f kj49 t414 t415).bind fun t424 => (if t424 = true then ((impl_IsFullStage.f kj49 t414 t420).bind fun t425 => (some t425)) else (some true))) = some r := by rw [if_pos rfl] at H; exact H
        clear H
        have H := H1
        clear H1
        replace H := Option.bind_eq_some_iff.mp H
        obtain ⟨t424, A660, H⟩ := H
        try dsimp only at H
        have A66 := Aside0.mk A660
        clear A660
        by_cases c67 : t424 = true
        rotate_left
        ·
         replace c67 := Bool.eq_false_iff.mpr c67
         subst c67
         have H1 : (some true) = some r := by rw [if_neg (show ¬ (false = true) by decide)] at H; exact H
         clear H
         have H := H1
         clear H1
         obtain rfl := Option.some.inj H
         go_wp2_with (first | ((with_reducible refine gate_callee (f := 65) rfl ?_); refine goesL_ (some 88) rfl rfl Try.func65 (by kernel_rfl) rfl #[.slice A0 l0.length c0] rfl (by (try simp only [List.map_toArray, List.map_cons, List.map_nil]); first | done | rfl | (simp only [List.length_drop, List.length_take]; rfl)) ?_; (with_reducible refine (spec_DrawAddToStage.calls kj49 _ _ l0 t414 t415 _ ?side1 ?side2 A62.out).mono ?_); (case side1 => repeat (first | exact (Kd.C_below HR0.out HB.out) | (with_reducible refine Kd.C_alloc ?_ _) | (with_reducible refine Kd.C_drewN ?_ _) | (with_reducible refine Kd.C_drew ?_))); (case side2 => exact HC0.out); rintro e w76 ⟨v416, v418, rfl, ho0, ho1, hb⟩; refine ⟨_, rfl, ?_⟩; have n0_ := Aside0.mk (Kd.R_lower ho0 (below_size (by repeat (first | (with_reducible first | exact HB.out | apply below_alloc | apply pw_below_drewN | apply below_drew1) | exact HB.out)))); have n1_ := Aside0.mk (Kd.R_lower ho1 (below_size (by repeat (first | (with_reducible first | exact HB.out | apply below_alloc | apply pw_below_drewN | apply below_drew1) | exact HB.out)))); have n2_ := Aside0.mk (below_step (by repeat (first | (with_reducible first | exact HB.out | apply below_alloc | apply pw_below_drewN | apply below_drew1) | exact HB.out)) hb); clear HB; have HO417 := n0_; have HO419 := n1_; have HB := n2_; clear n0_ n1_ n2_; (try clear hb); (try clear hb2); (try clear hk); (try clear hi); (try clear ho0); (try clear ho1); obtain ⟨Ao77, co77, eo77⟩ := Kd.R_slice HO417.out; subst eo77; obtain ⟨Ao78, co78, eo78⟩ := Kd.R_slice HO419.out; subst eo78) | ((with_reducible refine gate_callee (f := 39) rfl ?_); refine goesL_ (some 93) rfl rfl Try.func39 (by kernel_rfl) rfl #[.slice Ao77 t414.length co77, .slice Ao78 t415.length co78] rfl (by (try simp only [List.map_toArray, List.map_cons, List.map_nil]); first | done | rfl | (simp only [List.length_drop, List.length_take]; rfl)) ?_; (with_reducible refine (impl_AddToStage.calls kj49 _ _ t414 _ _ t415 t420 _ ?side1 ?side2 ?side3 ?side4 A63.out).mono ?_); (case side1 => repeat (first | exact (Kd.R_reads' HO417.out).2.2 | (with_reducible refine Kd.C_alloc ?_ _) | (with_reducible refine Kd.C_drewN ?_ _) | (with_reducible refine Kd.C_drew ?_))); (case side2 => exact (Kd.R_reads' HO417.out).2.1); (case side3 => repeat (first | exact (Kd.R_reads' HO419.out).2.2 | (with_reducible refine Kd.C_alloc ?_ _) | (with_reducible refine Kd.C_drewN ?_ _) | (with_reducible refine Kd.C_drew ?_))); (case side4 => exact (Kd.R_reads' HO419.out).2.1); rintro e w79 ⟨v421, rfl, ho0, hb⟩; refine ⟨_, rfl, ?_⟩; have n0_ := Aside0.mk (Kd.R_below (by (with_reducible repeat (first | apply Kd.R_alloc | apply Kd.R_drewN | apply Kd.R_drew)); exact HO417.out) hb); have n1_ := Aside0.mk (Kd.R_elder' (by (with_reducible repeat (first | apply Kd.R_alloc | apply Kd.R_drewN | apply Kd.R_drew)); exact HO419.out) (Kd.R_base ho0) hb); have n2_ := Aside0.mk (Kd.R_lower (Kd.R_new' ho0 (Kd.R_lt (by (with_reducible repeat (first | apply Kd.R_alloc | apply Kd.R_drewN | apply Kd.R_drew)); exact HO419.out))) (below_size (by repeat (first | (with_reducible first | exact HB.out | apply below_alloc | apply pw_below_drewN | apply below_drew1) | exact HB.out)))); have n3_ := Aside0.mk (below_step (by repeat (first | (with_reducible first | exact HB.out | apply below_alloc | apply pw_below_drewN | apply below_drew1) | exact HB.out)) hb); clear HO417; clear HO419; clear HB; have HO417 := n0_; have HO419 := n1_; have HO422 := n2_; have HB := n3_; clear n0_ n1_ n2_ n3_; (try clear hb); (try clear hb2); (try clear hk); (try clear hi); (try clear ho0); obtain ⟨Ao80, co80, eo80⟩ := Kd.R_slice HO422.out; subst eo80) | ((with_reducible refine gate_callee (f := 58) rfl ?_); refine goesL_ (some 96) rfl rfl Try.func58 (by kernel_rfl) rfl #[.slice Ao78 t415.length co78, .slice Ao80 t420.length co80] rfl (by (try simp only [List.map_toArray, List.map_cons, List.map_nil]); first | done | rfl | (simp only [List.length_drop, List.length_take]; rfl)) ?_; (with_reducible refine (laws_within.calls kj49 _ _ t415 _ _ t420 true _ ?side1 ?side2 ?side3 ?side4 A64.out).mono ?_); (case side1 => repeat (first | exact (Kd.R_reads' HO419.out).2.2 | (with_reducible refine Kd.C_alloc ?_ _) | (with_reducible refine Kd.C_drewN ?_ _) | (with_reducible refine Kd.C_drew ?_))); (case side2 => exact (Kd.R_reads' HO419.out).2.1); (case side3 => repeat (first | exact (Kd.R_reads' HO422.out).2.2 | (with_reducible refine Kd.C_alloc ?_ _) | (with_reducible refine Kd.C_drewN ?_ _) | (with_reducible refine Kd.C_drew ?_))); (case side4 => exact (Kd.R_reads' HO422.out).2.1); rintro e w' ⟨rfl, ⟨nd, rfl⟩⟩; refine ⟨_, rfl, ?_⟩) | (go_at_call 22; (with_reducible refine (impl_IsTogether.calls kj49 _ _ t414 _ _ t415 false _ ?side1 ?side2 ?side3 ?side4 A66.out).mono ?_); (case side1 => repeat (first | exact (Kd.R_reads' HO417.out).2.2 | (with_reducible refine Kd.C_alloc ?_ _) | (with_reducible refine Kd.C_drewN ?_ _) | (with_reducible refine Kd.C_drew ?_))); (case side2 => exact (Kd.R_reads' HO417.out).2.1); (case side3 => repeat (first | exact (Kd.R_reads' HO419.out).2.2 | (with_reducible refine Kd.C_alloc ?_ _) | (with_reducible refine Kd.C_drewN ?_ _) | (with_reducible refine Kd.C_drew ?_))); (case side4 => exact (Kd.R_reads' HO419.out).2.1); rintro e w81 ⟨rfl, hb⟩; have n0_ := Aside0.mk (Kd.R_below (by (with_reducible repeat (first | apply Kd.R_alloc | apply Kd.R_drewN | apply Kd.R_drew)); exact HO417.out) hb); have n1_ := Aside0.mk (Kd.R_below (by (with_reducible repeat (first | apply Kd.R_alloc | apply Kd.R_drewN | apply Kd.R_drew)); exact HO419.out) hb); have n2_ := Aside0.mk (Kd.R_below (by (with_reducible repeat (first | apply Kd.R_alloc | apply Kd.R_drewN | apply Kd.R_drew)); exact HO422.out) hb); have n3_ := Aside0.mk (below_step (by repeat (first | (with_reducible first | exact HB.out | apply below_alloc | apply pw_below_drewN | apply below_drew1) | exact HB.out)) hb); clear HO417; clear HO419; clear HO422; clear HB; have HO417 := n0_; have HO419 := n1_; have HO422 := n2_; have HB := n3_; clear n0_ n1_ n2_ n3_; (try clear hb); (try clear hb2); (try clear hk); (try clear hi)))
         go_ret
         exact ⟨by first | rfl | (simp [errW_none, errW_some] <;> rfl) | (simp [*, errW_none, errW_some] <;> rfl), by repeat (first | (with_reducible first | exact HB.out | apply below_alloc | apply pw_below_drewN | apply below_drew1) | exact HB.out)⟩
        subst c67
        have H1 : ((impl_IsFullStage.f kj49 t414 t420).bind fun t425 => (some t425)) = some r := by rw [if_pos rfl] at H; exact H
        clear H
        have H := H1
        clear H1
        replace H := Option.bind_eq_some_iff.mp H
        obtain ⟨t425, A680, H⟩ := H
        try dsimp only at H
        have A68 := Aside0.mk A680
        clear A680
        obtain rfl := Option.some.inj H
        go_wp2_with (first | ((with_reducible refine gate_callee (f := 65) rfl ?_); refine goesL_ (some 88) rfl rfl Try.func65 (by kernel_rfl) rfl #[.slice A0 l0.length c0] rfl (by (try simp only [List.map_toArray, List.map_cons, List.map_nil]); first | done | rfl | (simp only [List.length_drop, List.length_take]; rfl)) ?_; (with_reducible refine (spec_DrawAddToStage.calls kj49 _ _ l0 t414 t415 _ ?side1 ?side2 A62.out).mono ?_); (case side1 => repeat (first | exact (Kd.C_below HR0.out HB.out) | (with_reducible refine Kd.C_alloc ?_ _) | (with_reducible refine Kd.C_drewN ?_ _) | (with_reducible refine Kd.C_drew ?_))); (case side2 => exact HC0.out); rintro e w69 ⟨v416, v418, rfl, ho0, ho1, hb⟩; refine ⟨_, rfl, ?_⟩; have n0_ := Aside0.mk (Kd.R_lower ho0 (below_size (by repeat (first | (with_reducible first | exact HB.out | apply below_alloc | apply pw_below_drewN | apply below_drew1) | exact HB.out)))); have n1_ := Aside0.mk (Kd.R_lower ho1 (below_size (by repeat (first | (with_reducible first | exact HB.out | apply below_alloc | apply pw_below_drewN | apply below_drew1) | exact HB.out)))); have n2_ := Aside0.mk (below_step (by repeat (first | (with_reducible first | exact HB.out | apply below_alloc | apply pw_below_drewN | apply below_drew1) | exact HB.out)) hb); clear HB; have HO417 := n0_; have HO419 := n1_; have HB := n2_; clear n0_ n1_ n2_; (try clear hb); (try clear hb2); (try clear hk); (try clear hi); (try clear ho0); (try clear ho1); obtain ⟨Ao70, co70, eo70⟩ := Kd.R_slice HO417.out; subst eo70; obtain ⟨Ao71, co71, eo71⟩ := Kd.R_slice HO419.out; subst eo71) | ((with_reducible refine gate_callee (f := 39) rfl ?_); refine goesL_ (some 93) rfl rfl Try.func39 (by kernel_rfl) rfl #[.slice Ao70 t414.length co70, .slice Ao71 t415.length co71] rfl (by (try simp only [List.map_toArray, List.map_cons, List.map_nil]); first | done | rfl | (simp only [List.length_drop, List.length_take]; rfl)) ?_; (with_reducible refine (impl_AddToStage.calls kj49 _ _ t414 _ _ t415 t420 _ ?side1 ?side2 ?side3 ?side4 A63.out).mono ?_); (case side1 => repeat (first | exact (Kd.R_reads' HO417.out).2.2 | (with_reducible refine Kd.C_alloc ?_ _) | (with_reducible refine Kd.C_drewN ?_ _) | (with_reducible refine Kd.C_drew ?_))); (case side2 => exact (Kd.R_reads' HO417.out).2.1); (case side3 => repeat (first | exact (Kd.R_reads' HO419.out).2.2 | (with_reducible refine Kd.C_alloc ?_ _) | (with_reducible refine Kd.C_drewN ?_ _) | (with_reducible refine Kd.C_drew ?_))); (case side4 => exact (Kd.R_reads' HO419.out).2.1); rintro e w72 ⟨v421, rfl, ho0, hb⟩; refine ⟨_, rfl, ?_⟩; have n0_ := Aside0.mk (Kd.R_below (by (with_reducible repeat (first | apply Kd.R_alloc | apply Kd.R_drewN | apply Kd.R_drew)); exact HO417.out) hb); have n1_ := Aside0.mk (Kd.R_elder' (by (with_reducible repeat (first | apply Kd.R_alloc | apply Kd.R_drewN | apply Kd.R_drew)); exact HO419.out) (Kd.R_base ho0) hb); have n2_ := Aside0.mk (Kd.R_lower (Kd.R_new' ho0 (Kd.R_lt (by (with_reducible repeat (first | apply Kd.R_alloc | apply Kd.R_drewN | apply Kd.R_drew)); exact HO419.out))) (below_size (by repeat (first | (with_reducible first | exact HB.out | apply below_alloc | apply pw_below_drewN | apply below_drew1) | exact HB.out)))); have n3_ := Aside0.mk (below_step (by repeat (first | (with_reducible first | exact HB.out | apply below_alloc | apply pw_below_drewN | apply below_drew1) | exact HB.out)) hb); clear HO417; clear HO419; clear HB; have HO417 := n0_; have HO419 := n1_; have HO422 := n2_; have HB := n3_; clear n0_ n1_ n2_ n3_; (try clear hb); (try clear hb2); (try clear hk); (try clear hi); (try clear ho0); obtain ⟨Ao73, co73, eo73⟩ := Kd.R_slice HO422.out; subst eo73) | ((with_reducible refine gate_callee (f := 58) rfl ?_); refine goesL_ (some 96) rfl rfl Try.func58 (by kernel_rfl) rfl #[.slice Ao71 t415.length co71, .slice Ao73 t420.length co73] rfl (by (try simp only [List.map_toArray, List.map_cons, List.map_nil]); first | done | rfl | (simp only [List.length_drop, List.length_take]; rfl)) ?_; (with_reducible refine (laws_within.calls kj49 _ _ t415 _ _ t420 true _ ?side1 ?side2 ?side3 ?side4 A64.out).mono ?_); (case side1 => repeat (first | exact (Kd.R_reads' HO419.out).2.2 | (with_reducible refine Kd.C_alloc ?_ _) | (with_reducible refine Kd.C_drewN ?_ _) | (with_reducible refine Kd.C_drew ?_))); (case side2 => exact (Kd.R_reads' HO419.out).2.1); (case side3 => repeat (first | exact (Kd.R_reads' HO422.out).2.2 | (with_reducible refine Kd.C_alloc ?_ _) | (with_reducible refine Kd.C_drewN ?_ _) | (with_reducible refine Kd.C_drew ?_))); (case side4 => exact (Kd.R_reads' HO422.out).2.1); rintro e w' ⟨rfl, ⟨nd, rfl⟩⟩; refine ⟨_, rfl, ?_⟩) | (go_at_call 22; (with_reducible refine (impl_IsTogether.calls kj49 _ _ t414 _ _ t415 true _ ?side1 ?side2 ?side3 ?side4 A66.out).mono ?_); (case side1 => repeat (first | exact (Kd.R_reads' HO417.out).2.2 | (with_reducible refine Kd.C_alloc ?_ _) | (with_reducible refine Kd.C_drewN ?_ _) | (with_reducible refine Kd.C_drew ?_))); (case side2 => exact (Kd.R_reads' HO417.out).2.1); (case side3 => repeat (first | exact (Kd.R_reads' HO419.out).2.2 | (with_reducible refine Kd.C_alloc ?_ _) | (with_reducible refine Kd.C_drewN ?_ _) | (with_reducible refine Kd.C_drew ?_))); (case side4 => exact (Kd.R_reads' HO419.out).2.1); rintro e w74 ⟨rfl, hb⟩; have n0_ := Aside0.mk (Kd.R_below (by (with_reducible repeat (first | apply Kd.R_alloc | apply Kd.R_drewN | apply Kd.R_drew)); exact HO417.out) hb); have n1_ := Aside0.mk (Kd.R_below (by (with_reducible repeat (first | apply Kd.R_alloc | apply Kd.R_drewN | apply Kd.R_drew)); exact HO419.out) hb); have n2_ := Aside0.mk (Kd.R_below (by (with_reducible repeat (first | apply Kd.R_alloc | apply Kd.R_drewN | apply Kd.R_drew)); exact HO422.out) hb); have n3_ := Aside0.mk (below_step (by repeat (first | (with_reducible first | exact HB.out | apply below_alloc | apply pw_below_drewN | apply below_drew1) | exact HB.out)) hb); clear HO417; clear HO419; clear HO422; clear HB; have HO417 := n0_; have HO419 := n1_; have HO422 := n2_; have HB := n3_; clear n0_ n1_ n2_ n3_; (try clear hb); (try clear hb2); (try clear hk); (try clear hi)) | (go_at_call 37; (with_reducible refine (impl_IsFullStage.calls kj49 _ _ t414 _ _ t420 t425 _ ?side1 ?side2 ?side3 ?side4 A68.out).mono ?_); (case side1 => repeat (first | exact (Kd.R_reads' HO417.out).2.2 | (with_reducible refine Kd.C_alloc ?_ _) | (with_reducible refine Kd.C_drewN ?_ _) | (with_reducible refine Kd.C_drew ?_))); (case side2 => exact (Kd.R_reads' HO417.out).2.1); (case side3 => repeat (first | exact (Kd.R_reads' HO422.out).2.2 | (with_reducible refine Kd.C_alloc ?_ _) | (with_reducible refine Kd.C_drewN ?_ _) | (with_reducible refine Kd.C_drew ?_))); (case side4 => exact (Kd.R_reads' HO422.out).2.1); rintro e w75 ⟨rfl, hb⟩; have n0_ := Aside0.mk (Kd.R_below (by (with_reducible repeat (first | apply Kd.R_alloc | apply Kd.R_drewN | apply Kd.R_drew)); exact HO417.out) hb); have n1_ := Aside0.mk (Kd.R_below (by (with_reducible repeat (first | apply Kd.R_alloc | apply Kd.R_drewN | apply Kd.R_drew)); exact HO419.out) hb); have n2_ := Aside0.mk (Kd.R_below (by (with_reducible repeat (first | apply Kd.R_alloc | apply Kd.R_drewN | apply Kd.R_drew)); exact HO422.out) hb); have n3_ := Aside0.mk (below_step (by repeat (first | (with_reducible first | exact HB.out | apply below_alloc | apply pw_below_drewN | apply below_drew1) | exact HB.out)) hb); clear HO417; clear HO419; clear HO422; clear HB; have HO417 := n0_; have HO419 := n1_; have HO422 := n2_; have HB := n3_; clear n0_ n1_ n2_ n3_; (try clear hb); (try clear hb2); (try clear hk); (try clear hi)))
        go_ret
        exact ⟨by first | rfl | (simp [errW_none, errW_some] <;> rfl) | (simp [*, errW_none, errW_some] <;> rfl), by repeat (first | (with_reducible first | exact HB.out | apply below_alloc | apply pw_below_drewN | apply below_drew1) | exact HB.out)⟩
   rw [if_pos c9] at H
   have c9b0 : decide (x5_1 < (t398.length : Int)) = true := decide_eq_true c9
   clear c9
   by_cases c10 : 0 ≤ x5_1
   rotate_left
   ·
    rw [if_neg c10] at H
    exact absurd H (by simp)
   rw [if_pos c10] at H
   have c10b0 : decide (0 ≤ x5_1) = true := decide_eq_true c10
   clear c10
   replace H := Option.bind_eq_some_iff.mp H
   obtain ⟨t402, A110, H⟩ := H
   try dsimp only at H
   have A11 := Aside0.mk A110
   clear A110
   by_cases c12 : t402 = true
   rotate_left
   ·
    replace c12 := Bool.eq_false_iff.mpr c12
    subst c12
    have H1 : (some false) = some r := by rw [if_neg (show ¬ (false = true) by decide)] at H; exact H
    clear H
    have H := H1
    clear H1
    obtain rfl := Option.some.inj H
    obtain ⟨Ao32, co32, eo32⟩ := Kd.S_slice HO_4.out
    subst eo32
    try go_wp2
    have n0_ := Aside0.mk (Kd.R_drew HO_3.out)
    have n1_ := Aside0.mk (Kd.S_drew HO_4.out)
    have n2_ := Aside0.mk (below_drew1 HB.out)
    clear HO_3
    clear HO_4
    clear HB
    have HO_3 := n0_
    have HO_4 := n1_
    have HB := n2_
    clear n0_ n1_ n2_
    have p401 : 0 ≤ (x5_1 : Int) := of_decide_eq_true (by first | (with_reducible assumption) | assumption)
    have q401 : x5_1 < (t398.length : Int) := of_decide_eq_true (by first | (with_reducible assumption) | assumption)
    obtain ⟨ad401, A401_0, c401_0, e401, hx401_0, hl401_0, hi401_0⟩ := at_L2 (Kd.S_reads' HO_4.out).2.2 x5_1 p401 q401
    cases e401
    obtain ⟨ce401, hce401, hMe401, hcc401⟩ := Kd.S_get HO_4.out [] x5_1 p401 (by first | exact q401 | exact of_decide_eq_true (by first | (with_reducible assumption) | assumption) | (have e_ := (Kd.S_reads' HO_4.out).1; omega))
    obtain ⟨ve401_0, rfl, ge401_0⟩ := hMe401
    have hv401_0 := hcc401 0 _ rfl
    rw [Nat.add_zero, show ((Kd.slice 3 (Kd.int .i64))).sz = 1 from rfl, Nat.mul_one] at hv401_0
    replace hv401_0 := Option.some.inj (hv401_0.symm.trans hx401_0)
    rw [hv401_0] at ge401_0
    have HL401_0 := Aside0.mk (show Kd.R (Kd.int .i64) 3 _ _ _ _ (rd_L2 t398 x5_1) from ge401_0)
    clear hv401_0 ge401_0
    clear hcc401 hce401
    have HR401_0 := Aside0.mk hi401_0
    have HC401_0 := Aside0.mk hl401_0
    clear hi401_0 hl401_0
    replace p401 := eq_true p401
    replace q401 := eq_true q401
    refine start_ (n := 31) (S := fun w' => w'.cell? (ad401.add (x5_1).toNat) = some (.slice A401_0 (rd_L2 t398 x5_1).length c401_0)) (ds := []) (bs 31 0) (by kernel_rfl) rfl (by kernel_rfl) (hx401_0) (fun hHeld => ?_); refine with_tabW laws_FnStages.tab8 laws_FnStages.bits8 (fun HT_ HW_ => ?_)
    generalize wr.drew = w33 at HO_3 HO_4 HB HL401_0 HR401_0 hx401_0 hHeld ⊢
    refine pu 0 22 (bs 31 1) HT_ (h := ?_)
    refine pu 1 23 (bs 31 3) HT_ (h := ?_)
    refine pu 2 24 (bs 31 7) HT_ (h := ?_)
    refine pu 3 25 (bs 31 15) HT_ (h := ?_)
    refine take_ (i := 4) (N := some 26) (v := ?_) (a' := ?_) (bs 31 31) rfl rfl (take_ofW HT_.out HW_.out (by kernel_rfl)) (fun _ _ _ h => h) (Or.inl ⟨by rfl, ?_⟩) hHeld ?_ ?_
    rotate_left
    ·
     intro w' s0
     go_simp
     with_reducible rfl
    rotate_left
    ·
     simp only [Act.put, List.setIfInBounds_toArray, List.set_cons_zero, List.set_cons_succ, i64_w, i32_w]
     rfl
    refine one_ (i := 5) (N := some 27) (bs 31 63) rfl rfl (one_of HT_.out (by kernel_rfl)) (by decide) (fun K hK => ?_)
    refine goes_ Try.func37 (by kernel_rfl) rfl #[.slice Ao7 t395.length co7, .slice A401_0 (rd_L2 t398 x5_1).length c401_0] (by rfl) rfl rfl (by (try simp only [List.map_toArray, List.map_cons, List.map_nil]); first | done | rfl | (simp only [List.length_drop, List.length_take]; rfl)) ?_
    with_reducible refine (impl_IsFullStage.calls k1 _ _ t395 _ _ (rd_L2 t398 x5_1) false _ ?side1 ?side2 ?side3 ?side4 A11.out).mono ?_
    (case side1 => repeat (first | exact (Kd.R_reads' HO_3.out).2.2 | (with_reducible refine Kd.C_alloc ?_ _) | (with_reducible refine Kd.C_drewN ?_ _) | (with_reducible refine Kd.C_drew ?_)))
    (case side2 => exact (Kd.R_reads' HO_3.out).2.1)
    (case side3 => repeat (first | exact (by repeat (first | (with_reducible exact HR401_0.out) | (with_reducible refine Kd.C_alloc ?_ _) | (with_reducible refine Kd.C_drewN ?_ _) | (with_reducible refine Kd.C_drew ?_) | exact HR401_0.out)) | (with_reducible refine Kd.C_alloc ?_ _) | (with_reducible refine Kd.C_drewN ?_ _) | (with_reducible refine Kd.C_drew ?_)))
    (case side4 => exact HC401_0.out)
    rintro e w34 ⟨rfl, hb⟩
    have HS0_ := (hb.cell (World.block_lt_of_cell? _ _ (hHeld))).trans (hHeld)
    refine ⟨_, rfl, ?_⟩
    have n0_ := Aside0.mk (Kd.R_below (by (with_reducible repeat (first | apply Kd.R_alloc | apply Kd.R_drewN | apply Kd.R_drew)); exact HO_3.out) hb)
    have n1_ := Aside0.mk (Kd.S_below (by (with_reducible repeat (first | apply Kd.S_alloc | apply Kd.S_drewN | apply Kd.S_drew)); exact HO_4.out) hb)
    have n2_ := Aside0.mk (Kd.R_below (by (with_reducible repeat (first | apply Kd.R_alloc | apply Kd.R_drewN | apply Kd.R_drew)); exact HL401_0.out) hb)
    have n3_ := Aside0.mk (Kd.C_below (by repeat (first | (with_reducible exact HR401_0.out) | (with_reducible refine Kd.C_alloc ?_ _) | (with_reducible refine Kd.C_drewN ?_ _) | (with_reducible refine Kd.C_drew ?_) | exact HR401_0.out)) hb)
    have n4_ := Aside0.mk (below_step (by repeat (first | (with_reducible first | exact HB.out | apply below_alloc | apply pw_below_drewN | apply below_drew1) | exact HB.out)) hb)
    clear HO_3
    clear HO_4
    clear HL401_0
    clear HR401_0
    clear HB
    have HO_3 := n0_
    have HO_4 := n1_
    have HL401_0 := n2_
    have HR401_0 := n3_
    have HB := n4_
    clear n0_ n1_ n2_ n3_ n4_
    (try clear hb)
    (try clear hb2)
    (try clear hk)
    (try clear hi)
    refine hK.out _ _ (HS0_) (fun hHeld => ?_)
    clear hK K
    refine nm 27 (h := ?_)
    refine pu 6 28 (bs 31 127) HT_ (h := ?_)
    refine pu 7 29 (bs 31 255) HT_ (h := ?_)
    refine pn 8 30 (bs 31 511) HT_ (h := ?_)
    refine pn 9 31 (bs 31 1023) HT_ (h := ?_)
    refine pn 10 32 (bs 31 2047) HT_ (h := ?_)
    refine pn 11 33 (bs 31 4095) HT_ (h := ?_)
    refine pn 12 34 (bs 31 8191) HT_ (h := ?_)
    refine pn 13 35 (bs 31 16383) HT_ (h := ?_)
    refine pu 14 36 (bs 31 32767) HT_ (h := ?_)
    refine pu 15 37 (bs 31 65535) HT_ (h := ?_)
    refine pn 16 38 (bs 31 131071) HT_ (h := ?_)
    refine pn 17 39 (bs 31 262143) HT_ (h := ?_)
    refine pn 18 40 (bs 31 524287) HT_ (h := ?_)
    refine pn 19 41 (bs 31 1048575) HT_ (h := ?_)
    refine pn 20 42 (bs 31 2097151) HT_ (h := ?_)
    refine pn 21 43 (bs 31 4194303) HT_ (h := ?_)
    refine pn 22 44 (bs 31 8388607) HT_ (h := ?_)
    refine pn 23 45 (bs 31 16777215) HT_ (h := ?_)
    refine pn 24 46 (bs 31 33554431) HT_ (h := ?_)
    refine pn 25 47 (bs 31 67108863) HT_ (h := ?_)
    refine pn 26 48 (bs 31 134217727) HT_ (h := ?_)
    refine pn 27 49 (bs 31 268435455) HT_ (h := ?_)
    refine pn 28 50 (bs 31 536870911) HT_ (h := ?_)
    refine pn 29 51 (bs 31 1073741823) HT_ (h := ?_)
    refine pu 30 52 (bs 31 2147483647) HT_ (h := ?_)
    refine done_ (done_of HT_.out (by kernel_rfl)) ?_
    try go_wp2
    go_ret
    exact ⟨by first | rfl | (simp [errW_none, errW_some] <;> rfl) | (simp [*, errW_none, errW_some] <;> rfl), by repeat (first | (with_reducible first | exact HB.out | apply below_alloc | apply pw_below_drewN | apply below_drew1) | exact HB.out)⟩
   subst c12
   have H1 : (if ((rd_L2 t398 x5_1).length : Int) = 0 then (some false) else (if x5_1 > 0 then (if 0 ≤ (wrap64 (x5_1 - 1)) then (if (wrap64 (x5_1 - 1)) < (t398.length : Int) then ((laws_sameInts.f k1 (rd_L2 t398 (wrap64 (x5_1 - 1))) (rd_L2 t398 x5_1)).bind fun t406 => (if t406 = true then (some false) else (laws_FnStages.l0 k1 l0 t395 t398 (wrap64 (x5_1 + 1))))) else (none)) else (none)) else (laws_FnStages.l0 k1 l0 t395 t398 (wrap64 (x5_1 + 1))))) = some r := by rw [if_pos rfl] at H; exact H
   clear H
   have H := H1
   clear H1
   by_cases c13 : ((rd_L2 t398 x5_1).length : Int) = 0
   ·
    rw [if_pos c13] at H
    have c13b0 : (((rd_L2 t398 x5_1).length : Int) == 0) = true := beq_iff_eq.mpr c13
    have c13b1 : (((rd_L2 t398 x5_1).length : Int) != 0) = false := bne_eq_false_iff_eq.mpr c13
    clear c13
    obtain rfl := Option.some.inj H
    obtain ⟨Ao14, co14, eo14⟩ := Kd.S_slice HO_4.out
    subst eo14
    try go_wp2
    have n0_ := Aside0.mk (Kd.R_drew HO_3.out)
    have n1_ := Aside0.mk (Kd.S_drew HO_4.out)
    have n2_ := Aside0.mk (below_drew1 HB.out)
    clear HO_3
    clear HO_4
    clear HB
    have HO_3 := n0_
    have HO_4 := n1_
    have HB := n2_
    clear n0_ n1_ n2_
    have p401 : 0 ≤ (x5_1 : Int) := of_decide_eq_true (by first | (with_reducible assumption) | assumption)
    have q401 : x5_1 < (t398.length : Int) := of_decide_eq_true (by first | (with_reducible assumption) | assumption)
    obtain ⟨ad401, A401_0, c401_0, e401, hx401_0, hl401_0, hi401_0⟩ := at_L2 (Kd.S_reads' HO_4.out).2.2 x5_1 p401 q401
    cases e401
    obtain ⟨ce401, hce401, hMe401, hcc401⟩ := Kd.S_get HO_4.out [] x5_1 p401 (by first | exact q401 | exact of_decide_eq_true (by first | (with_reducible assumption) | assumption) | (have e_ := (Kd.S_reads' HO_4.out).1; omega))
    obtain ⟨ve401_0, rfl, ge401_0⟩ := hMe401
    have hv401_0 := hcc401 0 _ rfl
    rw [Nat.add_zero, show ((Kd.slice 3 (Kd.int .i64))).sz = 1 from rfl, Nat.mul_one] at hv401_0
    replace hv401_0 := Option.some.inj (hv401_0.symm.trans hx401_0)
    rw [hv401_0] at ge401_0
    have HL401_0 := Aside0.mk (show Kd.R (Kd.int .i64) 3 _ _ _ _ (rd_L2 t398 x5_1) from ge401_0)
    clear hv401_0 ge401_0
    clear hcc401 hce401
    have HR401_0 := Aside0.mk hi401_0
    have HC401_0 := Aside0.mk hl401_0
    clear hi401_0 hl401_0
    replace p401 := eq_true p401
    replace q401 := eq_true q401
    have p403 : 0 ≤ (x5_1 : Int) := of_decide_eq_true (by first | (with_reducible assumption) | assumption)
    have q403 : x5_1 < (t398.length : Int) := of_decide_eq_true (by first | (with_reducible assumption) | assumption)
    obtain ⟨ad403, A403_0, c403_0, e403, hx403_0, hl403_0, hi403_0⟩ := at_L2 (Kd.S_reads' HO_4.out).2.2 x5_1 p403 q403
    obtain rfl : ad401 = ad403 := (by injection e403)
    obtain ⟨ce403, hce403, hMe403, hcc403⟩ := Kd.S_get HO_4.out [] x5_1 p403 (by first | exact q403 | exact of_decide_eq_true (by first | (with_reducible assumption) | assumption) | (have e_ := (Kd.S_reads' HO_4.out).1; omega))
    obtain ⟨ve403_0, rfl, ge403_0⟩ := hMe403
    have hv403_0 := hcc403 0 _ rfl
    rw [Nat.add_zero, show ((Kd.slice 3 (Kd.int .i64))).sz = 1 from rfl, Nat.mul_one] at hv403_0
    replace hv403_0 := Option.some.inj (hv403_0.symm.trans hx403_0)
    rw [hv403_0] at ge403_0
    have HL403_0 := Aside0.mk (show Kd.R (Kd.int .i64) 3 _ _ _ _ (rd_L2 t398 x5_1) from ge403_0)
    clear hv403_0 ge403_0
    clear hcc403 hce403
    have HR403_0 := Aside0.mk hi403_0
    have HC403_0 := Aside0.mk hl403_0
    clear hi403_0 hl403_0
    replace p403 := eq_true p403
    replace q403 := eq_true q403
    refine start_ (n := 31) (S := fun w' => w'.cell? (ad401.add (x5_1).toNat) = some (.slice A401_0 (rd_L2 t398 x5_1).length c401_0) ∧ w'.cell? (ad401.add (x5_1).toNat) = some (.slice A403_0 (rd_L2 t398 x5_1).length c403_0)) (ds := []) (bs 31 0) (by kernel_rfl) rfl (by kernel_rfl) ⟨hx401_0, hx403_0⟩ (fun hHeld => ?_); refine with_tabW laws_FnStages.tab8 laws_FnStages.bits8 (fun HT_ HW_ => ?_)
    generalize wr.drew = w15 at HO_3 HO_4 HB HL401_0 HL403_0 HR401_0 HR403_0 hx401_0 hx403_0 hHeld ⊢
    refine pu 0 22 (bs 31 1) HT_ (h := ?_)
    refine pu 1 23 (bs 31 3) HT_ (h := ?_)
    refine pu 2 24 (bs 31 7) HT_ (h := ?_)
    refine pu 3 25 (bs 31 15) HT_ (h := ?_)
    refine tk 4 26 (bs 31 31) HT_ HW_ hHeld (hy := fun w' ⟨s0, s1⟩ => by go_simp; with_reducible rfl) (h := ?_)
    refine one_ (i := 5) (N := some 27) (bs 31 63) rfl rfl (one_of HT_.out (by kernel_rfl)) (by decide) (fun K hK => ?_)
    refine goes_ Try.func37 (by kernel_rfl) rfl #[.slice Ao7 t395.length co7, .slice A401_0 (rd_L2 t398 x5_1).length c401_0] (by rfl) rfl rfl (by (try simp only [List.map_toArray, List.map_cons, List.map_nil]); first | done | rfl | (simp only [List.length_drop, List.length_take]; rfl)) ?_
    with_reducible refine (impl_IsFullStage.calls k1 _ _ t395 _ _ (rd_L2 t398 x5_1) true _ ?side1 ?side2 ?side3 ?side4 A11.out).mono ?_
    (case side1 => repeat (first | exact (Kd.R_reads' HO_3.out).2.2 | (with_reducible refine Kd.C_alloc ?_ _) | (with_reducible refine Kd.C_drewN ?_ _) | (with_reducible refine Kd.C_drew ?_)))
    (case side2 => exact (Kd.R_reads' HO_3.out).2.1)
    (case side3 => repeat (first | exact (by repeat (first | (with_reducible exact HR401_0.out) | (with_reducible refine Kd.C_alloc ?_ _) | (with_reducible refine Kd.C_drewN ?_ _) | (with_reducible refine Kd.C_drew ?_) | exact HR401_0.out)) | (with_reducible refine Kd.C_alloc ?_ _) | (with_reducible refine Kd.C_drewN ?_ _) | (with_reducible refine Kd.C_drew ?_)))
    (case side4 => exact HC401_0.out)
    rintro e w16 ⟨rfl, hb⟩
    have HS0_ := (hb.cell (World.block_lt_of_cell? _ _ (hHeld.1))).trans (hHeld.1)
    have HS1_ := (hb.cell (World.block_lt_of_cell? _ _ (hHeld.2))).trans (hHeld.2)
    refine ⟨_, rfl, ?_⟩
    have n0_ := Aside0.mk (Kd.R_below (by (with_reducible repeat (first | apply Kd.R_alloc | apply Kd.R_drewN | apply Kd.R_drew)); exact HO_3.out) hb)
    have n1_ := Aside0.mk (Kd.S_below (by (with_reducible repeat (first | apply Kd.S_alloc | apply Kd.S_drewN | apply Kd.S_drew)); exact HO_4.out) hb)
    have n2_ := Aside0.mk (Kd.R_below (by (with_reducible repeat (first | apply Kd.R_alloc | apply Kd.R_drewN | apply Kd.R_drew)); exact HL401_0.out) hb)
    have n3_ := Aside0.mk (Kd.C_below (by repeat (first | (with_reducible exact HR401_0.out) | (with_reducible refine Kd.C_alloc ?_ _) | (with_reducible refine Kd.C_drewN ?_ _) | (with_reducible refine Kd.C_drew ?_) | exact HR401_0.out)) hb)
    have n4_ := Aside0.mk (below_step (by repeat (first | (with_reducible first | exact HB.out | apply below_alloc | apply pw_below_drewN | apply below_drew1) | exact HB.out)) hb)
    clear HO_3
    clear HO_4
    clear HL401_0
    clear HR401_0
    clear HB
    have HO_3 := n0_
    have HO_4 := n1_
    have HL401_0 := n2_
    have HR401_0 := n3_
    have HB := n4_
    clear n0_ n1_ n2_ n3_ n4_
    (try clear hb)
    (try clear hb2)
    (try clear hk)
    (try clear hi)
    refine hK.out _ _ ⟨HS0_, HS1_⟩ (fun hHeld => ?_)
    clear hK K
    refine nm 27 (h := ?_)
    refine pu 6 28 (bs 31 127) HT_ (h := ?_)
    refine pu 7 29 (bs 31 255) HT_ (h := ?_)
    refine pu 8 30 (bs 31 511) HT_ (h := ?_)
    refine pu 9 31 (bs 31 1023) HT_ (h := ?_)
    refine pu 10 32 (bs 31 2047) HT_ (h := ?_)
    refine tk 11 33 (bs 31 4095) HT_ HW_ hHeld (hy := fun w' ⟨s0, s1⟩ => by go_simp; with_reducible rfl) (h := ?_)
    refine pu 12 34 (bs 31 8191) HT_ (h := ?_)
    refine pu 13 35 (bs 31 16383) HT_ (h := ?_)
    refine pu 14 36 (bs 31 32767) HT_ (h := ?_)
    refine pu 15 37 (bs 31 65535) HT_ (h := ?_)
    refine pn 16 38 (bs 31 131071) HT_ (h := ?_)
    refine pn 17 39 (bs 31 262143) HT_ (h := ?_)
    refine pn 18 40 (bs 31 524287) HT_ (h := ?_)
    refine pn 19 41 (bs 31 1048575) HT_ (h := ?_)
    refine pn 20 42 (bs 31 2097151) HT_ (h := ?_)
    refine pn 21 43 (bs 31 4194303) HT_ (h := ?_)
    refine pn 22 44 (bs 31 8388607) HT_ (h := ?_)
    refine pn 23 45 (bs 31 16777215) HT_ (h := ?_)
    refine pn 24 46 (bs 31 33554431) HT_ (h := ?_)
    refine pn 25 47 (bs 31 67108863) HT_ (h := ?_)
    refine pn 26 48 (bs 31 134217727) HT_ (h := ?_)
    refine pn 27 49 (bs 31 268435455) HT_ (h := ?_)
    refine pn 28 50 (bs 31 536870911) HT_ (h := ?_)
    refine pn 29 51 (bs 31 1073741823) HT_ (h := ?_)
    refine pu 30 52 (bs 31 2147483647) HT_ (h := ?_)
    refine done_ (done_of HT_.out (by kernel_rfl)) ?_
    try go_wp2
    go_ret
    exact ⟨by first | rfl | (simp [errW_none, errW_some] <;> rfl) | (simp [*, errW_none, errW_some] <;> rfl), by repeat (first | (with_reducible first | exact HB.out | apply below_alloc | apply pw_below_drewN | apply below_drew1) | exact HB.out)⟩
   rw [if_neg c13] at H
   have c13b0 : (((rd_L2 t398 x5_1).length : Int) == 0) = false := beq_eq_false_iff_ne.mpr c13
   have c13b1 : (((rd_L2 t398 x5_1).length : Int) != 0) = true := bne_iff_ne.mpr c13
   have c13b2 : ¬ ((rd_L2 t398 x5_1) = []) := fun h_ => c13 (by rw [h_]; rfl)
   by_cases c17 : x5_1 > 0
   rotate_left
   ·
    rw [if_neg c17] at H
    have c17b0 : decide (0 < x5_1) = false := decide_eq_false c17
    clear c17
    have H' := Aside0.mk H
    clear H
    obtain ⟨Ao29, co29, eo29⟩ := Kd.S_slice HO_4.out
    subst eo29
    try go_wp2
    have n0_ := Aside0.mk (Kd.R_drew HO_3.out)
    have n1_ := Aside0.mk (Kd.S_drew HO_4.out)
    have n2_ := Aside0.mk (below_drew1 HB.out)
    clear HO_3
    clear HO_4
    clear HB
    have HO_3 := n0_
    have HO_4 := n1_
    have HB := n2_
    clear n0_ n1_ n2_
    have p401 : 0 ≤ (x5_1 : Int) := of_decide_eq_true (by first | (with_reducible assumption) | assumption)
    have q401 : x5_1 < (t398.length : Int) := of_decide_eq_true (by first | (with_reducible assumption) | assumption)
    obtain ⟨ad401, A401_0, c401_0, e401, hx401_0, hl401_0, hi401_0⟩ := at_L2 (Kd.S_reads' HO_4.out).2.2 x5_1 p401 q401
    cases e401
    obtain ⟨ce401, hce401, hMe401, hcc401⟩ := Kd.S_get HO_4.out [] x5_1 p401 (by first | exact q401 | exact of_decide_eq_true (by first | (with_reducible assumption) | assumption) | (have e_ := (Kd.S_reads' HO_4.out).1; omega))
    obtain ⟨ve401_0, rfl, ge401_0⟩ := hMe401
    have hv401_0 := hcc401 0 _ rfl
    rw [Nat.add_zero, show ((Kd.slice 3 (Kd.int .i64))).sz = 1 from rfl, Nat.mul_one] at hv401_0
    replace hv401_0 := Option.some.inj (hv401_0.symm.trans hx401_0)
    rw [hv401_0] at ge401_0
    have HL401_0 := Aside0.mk (show Kd.R (Kd.int .i64) 3 _ _ _ _ (rd_L2 t398 x5_1) from ge401_0)
    clear hv401_0 ge401_0
    clear hcc401 hce401
    have HR401_0 := Aside0.mk hi401_0
    have HC401_0 := Aside0.mk hl401_0
    clear hi401_0 hl401_0
    replace p401 := eq_true p401
    replace q401 := eq_true q401
    have p403 : 0 ≤ (x5_1 : Int) := of_decide_eq_true (by first | (with_reducible assumption) | assumption)
    have q403 : x5_1 < (t398.length : Int) := of_decide_eq_true (by first | (with_reducible assumption) | assumption)
    obtain ⟨ad403, A403_0, c403_0, e403, hx403_0, hl403_0, hi403_0⟩ := at_L2 (Kd.S_reads' HO_4.out).2.2 x5_1 p403 q403
    obtain rfl : ad401 = ad403 := (by injection e403)
    obtain ⟨ce403, hce403, hMe403, hcc403⟩ := Kd.S_get HO_4.out [] x5_1 p403 (by first | exact q403 | exact of_decide_eq_true (by first | (with_reducible assumption) | assumption) | (have e_ := (Kd.S_reads' HO_4.out).1; omega))
    obtain ⟨ve403_0, rfl, ge403_0⟩ := hMe403
    have hv403_0 := hcc403 0 _ rfl
    rw [Nat.add_zero, show ((Kd.slice 3 (Kd.int .i64))).sz = 1 from rfl, Nat.mul_one] at hv403_0
    replace hv403_0 := Option.some.inj (hv403_0.symm.trans hx403_0)
    rw [hv403_0] at ge403_0
    have HL403_0 := Aside0.mk (show Kd.R (Kd.int .i64) 3 _ _ _ _ (rd_L2 t398 x5_1) from ge403_0)
    clear hv403_0 ge403_0
    clear hcc403 hce403
    have HR403_0 := Aside0.mk hi403_0
    have HC403_0 := Aside0.mk hl403_0
    clear hi403_0 hl403_0
    replace p403 := eq_true p403
    replace q403 := eq_true q403
    refine start_ (n := 31) (S := fun w' => w'.cell? (ad401.add (x5_1).toNat) = some (.slice A401_0 (rd_L2 t398 x5_1).length c401_0) ∧ w'.cell? (ad401.add (x5_1).toNat) = some (.slice A403_0 (rd_L2 t398 x5_1).length c403_0)) (ds := []) (bs 31 0) (by kernel_rfl) rfl (by kernel_rfl) ⟨hx401_0, hx403_0⟩ (fun hHeld => ?_); refine with_tabW laws_FnStages.tab8 laws_FnStages.bits8 (fun HT_ HW_ => ?_)
    generalize wr.drew = w30 at HO_3 HO_4 HB HL401_0 HL403_0 HR401_0 HR403_0 hx401_0 hx403_0 hHeld ⊢
    refine pu 0 22 (bs 31 1) HT_ (h := ?_)
    refine pu 1 23 (bs 31 3) HT_ (h := ?_)
    refine pu 2 24 (bs 31 7) HT_ (h := ?_)
    refine pu 3 25 (bs 31 15) HT_ (h := ?_)
    refine tk 4 26 (bs 31 31) HT_ HW_ hHeld (hy := fun w' ⟨s0, s1⟩ => by go_simp; with_reducible rfl) (h := ?_)
    refine one_ (i := 5) (N := some 27) (bs 31 63) rfl rfl (one_of HT_.out (by kernel_rfl)) (by decide) (fun K hK => ?_)
    refine goes_ Try.func37 (by kernel_rfl) rfl #[.slice Ao7 t395.length co7, .slice A401_0 (rd_L2 t398 x5_1).length c401_0] (by rfl) rfl rfl (by (try simp only [List.map_toArray, List.map_cons, List.map_nil]); first | done | rfl | (simp only [List.length_drop, List.length_take]; rfl)) ?_
    with_reducible refine (impl_IsFullStage.calls k1 _ _ t395 _ _ (rd_L2 t398 x5_1) true _ ?side1 ?side2 ?side3 ?side4 A11.out).mono ?_
    (case side1 => repeat (first | exact (Kd.R_reads' HO_3.out).2.2 | (with_reducible refine Kd.C_alloc ?_ _) | (with_reducible refine Kd.C_drewN ?_ _) | (with_reducible refine Kd.C_drew ?_)))
    (case side2 => exact (Kd.R_reads' HO_3.out).2.1)
    (case side3 => repeat (first | exact (by repeat (first | (with_reducible exact HR401_0.out) | (with_reducible refine Kd.C_alloc ?_ _) | (with_reducible refine Kd.C_drewN ?_ _) | (with_reducible refine Kd.C_drew ?_) | exact HR401_0.out)) | (with_reducible refine Kd.C_alloc ?_ _) | (with_reducible refine Kd.C_drewN ?_ _) | (with_reducible refine Kd.C_drew ?_)))
    (case side4 => exact HC401_0.out)
    rintro e w31 ⟨rfl, hb⟩
    have HS0_ := (hb.cell (World.block_lt_of_cell? _ _ (hHeld.1))).trans (hHeld.1)
    have HS1_ := (hb.cell (World.block_lt_of_cell? _ _ (hHeld.2))).trans (hHeld.2)
    refine ⟨_, rfl, ?_⟩
    have n0_ := Aside0.mk (Kd.R_below (by (with_reducible repeat (first | apply Kd.R_alloc | apply Kd.R_drewN | apply Kd.R_drew)); exact HO_3.out) hb)
    have n1_ := Aside0.mk (Kd.S_below (by (with_reducible repeat (first | apply Kd.S_alloc | apply Kd.S_drewN | apply Kd.S_drew)); exact HO_4.out) hb)
    have n2_ := Aside0.mk (Kd.R_below (by (with_reducible repeat (first | apply Kd.R_alloc | apply Kd.R_drewN | apply Kd.R_drew)); exact HL401_0.out) hb)
    have n3_ := Aside0.mk (Kd.C_below (by repeat (first | (with_reducible exact HR401_0.out) | (with_reducible refine Kd.C_alloc ?_ _) | (with_reducible refine Kd.C_drewN ?_ _) | (with_reducible refine Kd.C_drew ?_) | exact HR401_0.out)) hb)
    have n4_ := Aside0.mk (below_step (by repeat (first | (with_reducible first | exact HB.out | apply below_alloc | apply pw_below_drewN | apply below_drew1) | exact HB.out)) hb)
    clear HO_3
    clear HO_4
    clear HL401_0
    clear HR401_0
    clear HB
    have HO_3 := n0_
    have HO_4 := n1_
    have HL401_0 := n2_
    have HR401_0 := n3_
    have HB := n4_
    clear n0_ n1_ n2_ n3_ n4_
    (try clear hb)
    (try clear hb2)
    (try clear hk)
    (try clear hi)
    refine hK.out _ _ ⟨HS0_, HS1_⟩ (fun hHeld => ?_)
    clear hK K
    refine nm 27 (h := ?_)
    refine pu 6 28 (bs 31 127) HT_ (h := ?_)
    refine pu 7 29 (bs 31 255) HT_ (h := ?_)
    refine pu 8 30 (bs 31 511) HT_ (h := ?_)
    refine pu 9 31 (bs 31 1023) HT_ (h := ?_)
    refine pu 10 32 (bs 31 2047) HT_ (h := ?_)
    refine tk 11 33 (bs 31 4095) HT_ HW_ hHeld (hy := fun w' ⟨s0, s1⟩ => by go_simp; with_reducible rfl) (h := ?_)
    refine pu 12 34 (bs 31 8191) HT_ (h := ?_)
    refine pu 13 35 (bs 31 16383) HT_ (h := ?_)
    refine pu 14 36 (bs 31 32767) HT_ (h := ?_)
    refine pu 15 37 (bs 31 65535) HT_ (h := ?_)
    refine pu 16 38 (bs 31 131071) HT_ (h := ?_)
    refine pu 17 39 (bs 31 262143) HT_ (h := ?_)
    refine pu 18 40 (bs 31 524287) HT_ (h := ?_)
    refine pn 19 41 (bs 31 1048575) HT_ (h := ?_)
    refine pn 20 42 (bs 31 2097151) HT_ (h := ?_)
    refine pn 21 43 (bs 31 4194303) HT_ (h := ?_)
    refine pn 22 44 (bs 31 8388607) HT_ (h := ?_)
    refine pn 23 45 (bs 31 16777215) HT_ (h := ?_)
    refine pn 24 46 (bs 31 33554431) HT_ (h := ?_)
    refine pn 25 47 (bs 31 67108863) HT_ (h := ?_)
    refine pn 26 48 (bs 31 134217727) HT_ (h := ?_)
    refine pn 27 49 (bs 31 268435455) HT_ (h := ?_)
    refine pn 28 50 (bs 31 536870911) HT_ (h := ?_)
    refine pu 29 51 (bs 31 1073741823) HT_ (h := ?_)
    refine pu 30 52 (bs 31 2147483647) HT_ (h := ?_)
    refine done_ (done_of HT_.out (by kernel_rfl)) ?_
    try go_wp2
    go_roundg k1
    case measure => have := HK1.out; omega
    case rel => exact ⟨(wrap64 (x5_1 + 1)), (by first | rfl | (simp; done) | (simp [*]; done)), H', ⟨by have := HK1.out; omega⟩, ⟨by (with_reducible repeat (first | apply Kd.R_alloc | apply Kd.R_drewN | apply Kd.R_drew)); exact HO_3.out⟩, ⟨by (with_reducible repeat (first | apply Kd.S_alloc | apply Kd.S_drewN | apply Kd.S_drew)); exact HO_4.out⟩, ⟨by repeat (first | (with_reducible first | exact HB.out | apply below_alloc | apply pw_below_drewN | apply below_drew1) | exact HB.out)⟩⟩
   rw [if_pos c17] at H
   have c17b0 : decide (0 < x5_1) = true := decide_eq_true c17
   clear c17
   obtain ⟨ji18, hji18⟩ : ∃ j_ : Int, (wrap64 (x5_1 - 1)) = j_ := ⟨_, rfl⟩
   replace H : (if 0 ≤ (ji18) then (if (ji18) < (t398.length : Int) then ((laws_sameInts.f k1 (rd_L2 t398 (ji18)) (rd_L2 t398 x5_1)).bind fun t406 => (if t406 = true then (some false) else (laws_FnStages.l0 k1 l0 t395 t398 (wrap64 (x5_1 + 1))))) else (none)) else (none)) = some r := by first | (rw [hji18] at H; exact H) | (simp only [hji18] at H ⊢; exact H)
   (try rw [hji18] at A11)
   have hji18w : (IntKind.i64.wrap (x5_1 - 1)) = ji18 := (i64_w _).trans hji18
   by_cases c19 : 0 ≤ (ji18)
   rotate_left
   ·
    rw [if_neg c19] at H
    exact absurd H (by simp)
   rw [if_pos c19] at H
   have c19b0 : decide (0 ≤ (ji18)) = true := decide_eq_true c19
   clear c19
   by_cases c20 : (ji18) < (t398.length : Int)
   rotate_left
   ·
    rw [if_neg c20] at H
    exact absurd H (by simp)
   rw [if_pos c20] at H
   have c20b0 : decide ((ji18) < (t398.length : Int)) = true := decide_eq_true c20
   clear c20
   replace H := Option.bind_eq_some_iff.mp H
   obtain ⟨t406, A210, H⟩ := H
   try dsimp only at H
   have A21 := Aside0.mk A210
   clear A210
   by_cases c22 : t406 = true
   ·
    subst c22
    have H1 : (some false) = some r := by rw [if_pos rfl] at H; exact H
    clear H
    have H := H1
    clear H1
    obtain rfl := Option.some.inj H
    obtain ⟨Ao23, co23, eo23⟩ := Kd.S_slice HO_4.out
    subst eo23
    try go_wp2
    have n0_ := Aside0.mk (Kd.R_drew HO_3.out)
    have n1_ := Aside0.mk (Kd.S_drew HO_4.out)
    have n2_ := Aside0.mk (below_drew1 HB.out)
    clear HO_3
    clear HO_4
    clear HB
    have HO_3 := n0_
    have HO_4 := n1_
    have HB := n2_
    clear n0_ n1_ n2_
    have p401 : 0 ≤ (x5_1 : Int) := of_decide_eq_true (by first | (with_reducible assumption) | assumption)
    have q401 : x5_1 < (t398.length : Int) := of_decide_eq_true (by first | (with_reducible assumption) | assumption)
    obtain ⟨ad401, A401_0, c401_0, e401, hx401_0, hl401_0, hi401_0⟩ := at_L2 (Kd.S_reads' HO_4.out).2.2 x5_1 p401 q401
    cases e401
    obtain ⟨ce401, hce401, hMe401, hcc401⟩ := Kd.S_get HO_4.out [] x5_1 p401 (by first | exact q401 | exact of_decide_eq_true (by first | (with_reducible assumption) | assumption) | (have e_ := (Kd.S_reads' HO_4.out).1; omega))
    obtain ⟨ve401_0, rfl, ge401_0⟩ := hMe401
    have hv401_0 := hcc401 0 _ rfl
    rw [Nat.add_zero, show ((Kd.slice 3 (Kd.int .i64))).sz = 1 from rfl, Nat.mul_one] at hv401_0
    replace hv401_0 := Option.some.inj (hv401_0.symm.trans hx401_0)
    rw [hv401_0] at ge401_0
    have HL401_0 := Aside0.mk (show Kd.R (Kd.int .i64) 3 _ _ _ _ (rd_L2 t398 x5_1) from ge401_0)
    clear hv401_0 ge401_0
    clear hcc401 hce401
    have HR401_0 := Aside0.mk hi401_0
    have HC401_0 := Aside0.mk hl401_0
    clear hi401_0 hl401_0
    replace p401 := eq_true p401
    replace q401 := eq_true q401
    have p403 : 0 ≤ (x5_1 : Int) := of_decide_eq_true (by first | (with_reducible assumption) | assumption)
    have q403 : x5_1 < (t398.length : Int) := of_decide_eq_true (by first | (with_reducible assumption) | assumption)
    obtain ⟨ad403, A403_0, c403_0, e403, hx403_0, hl403_0, hi403_0⟩ := at_L2 (Kd.S_reads' HO_4.out).2.2 x5_1 p403 q403
    obtain rfl : ad401 = ad403 := (by injection e403)
    obtain ⟨ce403, hce403, hMe403, hcc403⟩ := Kd.S_get HO_4.out [] x5_1 p403 (by first | exact q403 | exact of_decide_eq_true (by first | (with_reducible assumption) | assumption) | (have e_ := (Kd.S_reads' HO_4.out).1; omega))
    obtain ⟨ve403_0, rfl, ge403_0⟩ := hMe403
    have hv403_0 := hcc403 0 _ rfl
    rw [Nat.add_zero, show ((Kd.slice 3 (Kd.int .i64))).sz = 1 from rfl, Nat.mul_one] at hv403_0
    replace hv403_0 := Option.some.inj (hv403_0.symm.trans hx403_0)
    rw [hv403_0] at ge403_0
    have HL403_0 := Aside0.mk (show Kd.R (Kd.int .i64) 3 _ _ _ _ (rd_L2 t398 x5_1) from ge403_0)
    clear hv403_0 ge403_0
    clear hcc403 hce403
    have HR403_0 := Aside0.mk hi403_0
    have HC403_0 := Aside0.mk hl403_0
    clear hi403_0 hl403_0
    replace p403 := eq_true p403
    replace q403 := eq_true q403
    have p404 : 0 ≤ ((ji18) : Int) := of_decide_eq_true (by first | (with_reducible assumption) | assumption)
    have q404 : (ji18) < (t398.length : Int) := of_decide_eq_true (by first | (with_reducible assumption) | assumption)
    obtain ⟨ad404, A404_0, c404_0, e404, hx404_0, hl404_0, hi404_0⟩ := at_L2 (Kd.S_reads' HO_4.out).2.2 (ji18) p404 q404
    obtain rfl : ad401 = ad404 := (by injection e404)
    obtain ⟨ce404, hce404, hMe404, hcc404⟩ := Kd.S_get HO_4.out [] (ji18) p404 (by first | exact q404 | exact of_decide_eq_true (by first | (with_reducible assumption) | assumption) | (have e_ := (Kd.S_reads' HO_4.out).1; omega))
    obtain ⟨ve404_0, rfl, ge404_0⟩ := hMe404
    have hv404_0 := hcc404 0 _ rfl
    rw [Nat.add_zero, show ((Kd.slice 3 (Kd.int .i64))).sz = 1 from rfl, Nat.mul_one] at hv404_0
    replace hv404_0 := Option.some.inj (hv404_0.symm.trans hx404_0)
    rw [hv404_0] at ge404_0
    have HL404_0 := Aside0.mk (show Kd.R (Kd.int .i64) 3 _ _ _ _ (rd_L2 t398 (ji18)) from ge404_0)
    clear hv404_0 ge404_0
    clear hcc404 hce404
    have HR404_0 := Aside0.mk hi404_0
    have HC404_0 := Aside0.mk hl404_0
    clear hi404_0 hl404_0
    replace p404 := eq_true p404
    replace q404 := eq_true q404
    have p405 : 0 ≤ (x5_1 : Int) := of_decide_eq_true (by first | (with_reducible assumption) | assumption)
    have q405 : x5_1 < (t398.length : Int) := of_decide_eq_true (by first | (with_reducible assumption) | assumption)
    obtain ⟨ad405, A405_0, c405_0, e405, hx405_0, hl405_0, hi405_0⟩ := at_L2 (Kd.S_reads' HO_4.out).2.2 x5_1 p405 q405
    obtain rfl : ad401 = ad405 := (by injection e405)
    obtain ⟨ce405, hce405, hMe405, hcc405⟩ := Kd.S_get HO_4.out [] x5_1 p405 (by first | exact q405 | exact of_decide_eq_true (by first | (with_reducible assumption) | assumption) | (have e_ := (Kd.S_reads' HO_4.out).1; omega))
    obtain ⟨ve405_0, rfl, ge405_0⟩ := hMe405
    have hv405_0 := hcc405 0 _ rfl
    rw [Nat.add_zero, show ((Kd.slice 3 (Kd.int .i64))).sz = 1 from rfl, Nat.mul_one] at hv405_0
    replace hv405_0 := Option.some.inj (hv405_0.symm.trans hx405_0)
    rw [hv405_0] at ge405_0
    have HL405_0 := Aside0.mk (show Kd.R (Kd.int .i64) 3 _ _ _ _ (rd_L2 t398 x5_1) from ge405_0)
    clear hv405_0 ge405_0
    clear hcc405 hce405
    have HR405_0 := Aside0.mk hi405_0
    have HC405_0 := Aside0.mk hl405_0
    clear hi405_0 hl405_0
    replace p405 := eq_true p405
    replace q405 := eq_true q405
    have ea_ := Option.some.inj (hx403_0.symm.trans hx405_0)
    injection ea_ with ea_ en_ ec_
    subst ea_
    subst ec_
    clear en_
    have eb_ := Option.some.inj (hx401_0.symm.trans hx403_0)
    injection eb_ with eb_ en_ ec_
    subst eb_
    subst ec_
    clear en_
    refine start_ (n := 31) (S := fun w' => w'.cell? (ad401.add (x5_1).toNat) = some (.slice A401_0 (rd_L2 t398 x5_1).length c401_0) ∧ w'.cell? (ad401.add (x5_1).toNat) = some (.slice A401_0 (rd_L2 t398 x5_1).length c401_0) ∧ w'.cell? (ad401.add ((ji18)).toNat) = some (.slice A404_0 (rd_L2 t398 (ji18)).length c404_0) ∧ w'.cell? (ad401.add (x5_1).toNat) = some (.slice A401_0 (rd_L2 t398 x5_1).length c401_0)) (ds := []) (bs 31 0) (by kernel_rfl) rfl (by kernel_rfl) ⟨hx401_0, hx403_0, hx404_0, hx405_0⟩ (fun hHeld => ?_); refine with_tabW laws_FnStages.tab8 laws_FnStages.bits8 (fun HT_ HW_ => ?_)
    generalize wr.drew = w24 at HO_3 HO_4 HB HL401_0 HL403_0 HL404_0 HL405_0 HR401_0 HR403_0 HR404_0 HR405_0 hx401_0 hx403_0 hx404_0 hx405_0 hHeld ⊢
    refine pu 0 22 (bs 31 1) HT_ (h := ?_)
    refine pu 1 23 (bs 31 3) HT_ (h := ?_)
    refine pu 2 24 (bs 31 7) HT_ (h := ?_)
    refine pu 3 25 (bs 31 15) HT_ (h := ?_)
    refine tk 4 26 (bs 31 31) HT_ HW_ hHeld (hy := fun w' ⟨s0, s1, s2, s3⟩ => by go_simp; with_reducible rfl) (h := ?_)
    refine one_ (i := 5) (N := some 27) (bs 31 63) rfl rfl (one_of HT_.out (by kernel_rfl)) (by decide) (fun K hK => ?_)
    refine goes_ Try.func37 (by kernel_rfl) rfl #[.slice Ao7 t395.length co7, .slice A401_0 (rd_L2 t398 x5_1).length c401_0] (by rfl) rfl rfl (by (try simp only [List.map_toArray, List.map_cons, List.map_nil]); first | done | rfl | (simp only [List.length_drop, List.length_take]; rfl)) ?_
    with_reducible refine (impl_IsFullStage.calls k1 _ _ t395 _ _ (rd_L2 t398 x5_1) true _ ?side1 ?side2 ?side3 ?side4 A11.out).mono ?_
    (case side1 => repeat (first | exact (Kd.R_reads' HO_3.out).2.2 | (with_reducible refine Kd.C_alloc ?_ _) | (with_reducible refine Kd.C_drewN ?_ _) | (with_reducible refine Kd.C_drew ?_)))
    (case side2 => exact (Kd.R_reads' HO_3.out).2.1)
    (case side3 => repeat (first | exact (by repeat (first | (with_reducible exact HR401_0.out) | (with_reducible refine Kd.C_alloc ?_ _) | (with_reducible refine Kd.C_drewN ?_ _) | (with_reducible refine Kd.C_drew ?_) | exact HR401_0.out)) | (with_reducible refine Kd.C_alloc ?_ _) | (with_reducible refine Kd.C_drewN ?_ _) | (with_reducible refine Kd.C_drew ?_)))
    (case side4 => exact HC401_0.out)
    rintro e w25 ⟨rfl, hb⟩
    have HR404b := Aside0.mk (Kd.C_below HR404_0.out hb)
    have HR405b := Aside0.mk (Kd.C_below HR405_0.out hb)
    have HS0_ := (hb.cell (World.block_lt_of_cell? _ _ (hHeld.1))).trans (hHeld.1)
    have HS1_ := (hb.cell (World.block_lt_of_cell? _ _ (hHeld.2.1))).trans (hHeld.2.1)
    have HS2_ := (hb.cell (World.block_lt_of_cell? _ _ (hHeld.2.2.1))).trans (hHeld.2.2.1)
    have HS3_ := (hb.cell (World.block_lt_of_cell? _ _ (hHeld.2.2.2))).trans (hHeld.2.2.2)
    refine ⟨_, rfl, ?_⟩
    have n0_ := Aside0.mk (Kd.R_below (by (with_reducible repeat (first | apply Kd.R_alloc | apply Kd.R_drewN | apply Kd.R_drew)); exact HO_3.out) hb)
    have n1_ := Aside0.mk (Kd.S_below (by (with_reducible repeat (first | apply Kd.S_alloc | apply Kd.S_drewN | apply Kd.S_drew)); exact HO_4.out) hb)
    have n2_ := Aside0.mk (Kd.R_below (by (with_reducible repeat (first | apply Kd.R_alloc | apply Kd.R_drewN | apply Kd.R_drew)); exact HL401_0.out) hb)
    have n3_ := Aside0.mk (Kd.C_below (by repeat (first | (with_reducible exact HR401_0.out) | (with_reducible refine Kd.C_alloc ?_ _) | (with_reducible refine Kd.C_drewN ?_ _) | (with_reducible refine Kd.C_drew ?_) | exact HR401_0.out)) hb)
    have n4_ := Aside0.mk (below_step (by repeat (first | (with_reducible first | exact HB.out | apply below_alloc | apply pw_below_drewN | apply below_drew1) | exact HB.out)) hb)
    clear HO_3
    clear HO_4
    clear HL401_0
    clear HR401_0
    clear HB
    have HO_3 := n0_
    have HO_4 := n1_
    have HL401_0 := n2_
    have HR401_0 := n3_
    have HB := n4_
    clear n0_ n1_ n2_ n3_ n4_
    (try clear hb)
    (try clear hb2)
    (try clear hk)
    (try clear hi)
    refine hK.out _ _ ⟨HS0_, HS1_, HS2_, HS3_⟩ (fun hHeld => ?_)
    clear hK K
    refine nm 27 (h := ?_)
    refine pu 6 28 (bs 31 127) HT_ (h := ?_)
    refine pu 7 29 (bs 31 255) HT_ (h := ?_)
    refine pu 8 30 (bs 31 511) HT_ (h := ?_)
    refine pu 9 31 (bs 31 1023) HT_ (h := ?_)
    refine pu 10 32 (bs 31 2047) HT_ (h := ?_)
    refine tk 11 33 (bs 31 4095) HT_ HW_ hHeld (hy := fun w' ⟨s0, s1, s2, s3⟩ => by go_simp; with_reducible rfl) (h := ?_)
    refine pu 12 34 (bs 31 8191) HT_ (h := ?_)
    refine pu 13 35 (bs 31 16383) HT_ (h := ?_)
    refine pu 14 36 (bs 31 32767) HT_ (h := ?_)
    refine pu 15 37 (bs 31 65535) HT_ (h := ?_)
    refine pu 16 38 (bs 31 131071) HT_ (h := ?_)
    refine pu 17 39 (bs 31 262143) HT_ (h := ?_)
    refine pu 18 40 (bs 31 524287) HT_ (h := ?_)
    refine pu 19 41 (bs 31 1048575) HT_ (h := ?_)
    refine pu 20 42 (bs 31 2097151) HT_ (h := ?_)
    refine pu 21 43 (bs 31 4194303) HT_ (h := ?_)
    refine pu 22 44 (bs 31 8388607) HT_ (h := ?_)
    refine pu 24 46 (bs 31 25165823) HT_ (h := ?_)
    refine pu 25 47 (bs 31 58720255) HT_ (h := ?_)
    refine pu 26 48 (bs 31 125829119) HT_ (h := ?_)
    refine tk 23 45 (bs 31 134217727) HT_ HW_ hHeld (hy := fun w' ⟨s0, s1, s2, s3⟩ => by go_simp; with_reducible rfl) (h := ?_)
    refine tk 27 49 (bs 31 268435455) HT_ HW_ hHeld (hy := fun w' ⟨s0, s1, s2, s3⟩ => by go_simp; with_reducible rfl) (h := ?_)
    refine one_ (i := 28) (N := some 50) (bs 31 536870911) rfl rfl (one_of HT_.out (by kernel_rfl)) (by decide) (fun K hK => ?_)
    refine goes_ Try.func63 (by kernel_rfl) rfl #[.slice A404_0 (rd_L2 t398 (ji18)).length c404_0, .slice A401_0 (rd_L2 t398 x5_1).length c401_0] (by rfl) rfl rfl (by (try simp only [List.map_toArray, List.map_cons, List.map_nil]); first | done | (simp only [hji18]; rfl) | rfl | (simp only [List.length_drop, List.length_take]; rfl)) ?_
    with_reducible refine (laws_sameInts.calls k1 _ _ (rd_L2 t398 (ji18)) _ _ (rd_L2 t398 x5_1) true _ ?side1 ?side2 ?side3 ?side4 A21.out).mono ?_
    (case side1 => repeat (first | exact (by repeat (first | (with_reducible exact HR404b.out) | (with_reducible refine Kd.C_alloc ?_ _) | (with_reducible refine Kd.C_drewN ?_ _) | (with_reducible refine Kd.C_drew ?_) | exact HR404b.out)) | (with_reducible refine Kd.C_alloc ?_ _) | (with_reducible refine Kd.C_drewN ?_ _) | (with_reducible refine Kd.C_drew ?_)))
    (case side2 => exact HC404_0.out)
    (case side3 => repeat (first | exact (by repeat (first | (with_reducible exact HR405b.out) | (with_reducible refine Kd.C_alloc ?_ _) | (with_reducible refine Kd.C_drewN ?_ _) | (with_reducible refine Kd.C_drew ?_) | exact HR405b.out)) | (with_reducible refine Kd.C_alloc ?_ _) | (with_reducible refine Kd.C_drewN ?_ _) | (with_reducible refine Kd.C_drew ?_)))
    (case side4 => exact HC405_0.out)
    rintro e w' ⟨rfl, ⟨nd, rfl⟩⟩
    refine ⟨_, rfl, ?_⟩
    refine hK.out _ _ ⟨hHeld.1, hHeld.2.1, hHeld.2.2.1, hHeld.2.2.2⟩ (fun hHeld => ?_)
    clear hK K
    refine nm 50 (h := ?_)
    refine pu 29 51 (bs 31 1073741823) HT_ (h := ?_)
    refine pu 30 52 (bs 31 2147483647) HT_ (h := ?_)
    refine done_ (done_of HT_.out (by kernel_rfl)) ?_
    try go_wp2
    go_ret
    exact ⟨by first | rfl | (simp [errW_none, errW_some] <;> rfl) | (simp only [← hji18]; first | rfl | (simp [errW_none, errW_some] <;> rfl)) | (simp [*, errW_none, errW_some] <;> rfl), by repeat (first | (with_reducible first | exact HB.out | apply below_alloc | apply pw_below_drewN | apply below_drew1) | exact HB.out)⟩
   replace c22 := Bool.eq_false_iff.mpr c22
   subst c22
   have H1 : (laws_FnStages.l0 k1 l0 t395 t398 (wrap64 (x5_1 + 1))) = some r := by rw [if_neg (show ¬ (false = true) by decide)] at H; exact H
   clear H
   have H := H1
   clear H1
   have H' := Aside0.mk H
   clear H
   obtain ⟨Ao26, co26, eo26⟩ := Kd.S_slice HO_4.out
   subst eo26
   try go_wp2
   have n0_ := Aside0.mk (Kd.R_drew HO_3.out)
   have n1_ := Aside0.mk (Kd.S_drew HO_4.out)
   have n2_ := Aside0.mk (below_drew1 HB.out)
   clear HO_3
   clear HO_4
   clear HB
   have HO_3 := n0_
   have HO_4 := n1_
   have HB := n2_
   clear n0_ n1_ n2_
   have p401 : 0 ≤ (x5_1 : Int) := of_decide_eq_true (by first | (with_reducible assumption) | assumption)
   have q401 : x5_1 < (t398.length : Int) := of_decide_eq_true (by first | (with_reducible assumption) | assumption)
   obtain ⟨ad401, A401_0, c401_0, e401, hx401_0, hl401_0, hi401_0⟩ := at_L2 (Kd.S_reads' HO_4.out).2.2 x5_1 p401 q401
   cases e401
   obtain ⟨ce401, hce401, hMe401, hcc401⟩ := Kd.S_get HO_4.out [] x5_1 p401 (by first | exact q401 | exact of_decide_eq_true (by first | (with_reducible assumption) | assumption) | (have e_ := (Kd.S_reads' HO_4.out).1; omega))
   obtain ⟨ve401_0, rfl, ge401_0⟩ := hMe401
   have hv401_0 := hcc401 0 _ rfl
   rw [Nat.add_zero, show ((Kd.slice 3 (Kd.int .i64))).sz = 1 from rfl, Nat.mul_one] at hv401_0
   replace hv401_0 := Option.some.inj (hv401_0.symm.trans hx401_0)
   rw [hv401_0] at ge401_0
   have HL401_0 := Aside0.mk (show Kd.R (Kd.int .i64) 3 _ _ _ _ (rd_L2 t398 x5_1) from ge401_0)
   clear hv401_0 ge401_0
   clear hcc401 hce401
   have HR401_0 := Aside0.mk hi401_0
   have HC401_0 := Aside0.mk hl401_0
   clear hi401_0 hl401_0
   replace p401 := eq_true p401
   replace q401 := eq_true q401
   have p403 : 0 ≤ (x5_1 : Int) := of_decide_eq_true (by first | (with_reducible assumption) | assumption)
   have q403 : x5_1 < (t398.length : Int) := of_decide_eq_true (by first | (with_reducible assumption) | assumption)
   obtain ⟨ad403, A403_0, c403_0, e403, hx403_0, hl403_0, hi403_0⟩ := at_L2 (Kd.S_reads' HO_4.out).2.2 x5_1 p403 q403
   obtain rfl : ad401 = ad403 := (by injection e403)
   obtain ⟨ce403, hce403, hMe403, hcc403⟩ := Kd.S_get HO_4.out [] x5_1 p403 (by first | exact q403 | exact of_decide_eq_true (by first | (with_reducible assumption) | assumption) | (have e_ := (Kd.S_reads' HO_4.out).1; omega))
   obtain ⟨ve403_0, rfl, ge403_0⟩ := hMe403
   have hv403_0 := hcc403 0 _ rfl
   rw [Nat.add_zero, show ((Kd.slice 3 (Kd.int .i64))).sz = 1 from rfl, Nat.mul_one] at hv403_0
   replace hv403_0 := Option.some.inj (hv403_0.symm.trans hx403_0)
   rw [hv403_0] at ge403_0
   have HL403_0 := Aside0.mk (show Kd.R (Kd.int .i64) 3 _ _ _ _ (rd_L2 t398 x5_1) from ge403_0)
   clear hv403_0 ge403_0
   clear hcc403 hce403
   have HR403_0 := Aside0.mk hi403_0
   have HC403_0 := Aside0.mk hl403_0
   clear hi403_0 hl403_0
   replace p403 := eq_true p403
   replace q403 := eq_true q403
   have p404 : 0 ≤ ((ji18) : Int) := of_decide_eq_true (by first | (with_reducible assumption) | assumption)
   have q404 : (ji18) < (t398.length : Int) := of_decide_eq_true (by first | (with_reducible assumption) | assumption)
   obtain ⟨ad404, A404_0, c404_0, e404, hx404_0, hl404_0, hi404_0⟩ := at_L2 (Kd.S_reads' HO_4.out).2.2 (ji18) p404 q404
   obtain rfl : ad401 = ad404 := (by injection e404)
   obtain ⟨ce404, hce404, hMe404, hcc404⟩ := Kd.S_get HO_4.out [] (ji18) p404 (by first | exact q404 | exact of_decide_eq_true (by first | (with_reducible assumption) | assumption) | (have e_ := (Kd.S_reads' HO_4.out).1; omega))
   obtain ⟨ve404_0, rfl, ge404_0⟩ := hMe404
   have hv404_0 := hcc404 0 _ rfl
   rw [Nat.add_zero, show ((Kd.slice 3 (Kd.int .i64))).sz = 1 from rfl, Nat.mul_one] at hv404_0
   replace hv404_0 := Option.some.inj (hv404_0.symm.trans hx404_0)
   rw [hv404_0] at ge404_0
   have HL404_0 := Aside0.mk (show Kd.R (Kd.int .i64) 3 _ _ _ _ (rd_L2 t398 (ji18)) from ge404_0)
   clear hv404_0 ge404_0
   clear hcc404 hce404
   have HR404_0 := Aside0.mk hi404_0
   have HC404_0 := Aside0.mk hl404_0
   clear hi404_0 hl404_0
   replace p404 := eq_true p404
   replace q404 := eq_true q404
   have p405 : 0 ≤ (x5_1 : Int) := of_decide_eq_true (by first | (with_reducible assumption) | assumption)
   have q405 : x5_1 < (t398.length : Int) := of_decide_eq_true (by first | (with_reducible assumption) | assumption)
   obtain ⟨ad405, A405_0, c405_0, e405, hx405_0, hl405_0, hi405_0⟩ := at_L2 (Kd.S_reads' HO_4.out).2.2 x5_1 p405 q405
   obtain rfl : ad401 = ad405 := (by injection e405)
   obtain ⟨ce405, hce405, hMe405, hcc405⟩ := Kd.S_get HO_4.out [] x5_1 p405 (by first | exact q405 | exact of_decide_eq_true (by first | (with_reducible assumption) | assumption) | (have e_ := (Kd.S_reads' HO_4.out).1; omega))
   obtain ⟨ve405_0, rfl, ge405_0⟩ := hMe405
   have hv405_0 := hcc405 0 _ rfl
   rw [Nat.add_zero, show ((Kd.slice 3 (Kd.int .i64))).sz = 1 from rfl, Nat.mul_one] at hv405_0
   replace hv405_0 := Option.some.inj (hv405_0.symm.trans hx405_0)
   rw [hv405_0] at ge405_0
   have HL405_0 := Aside0.mk (show Kd.R (Kd.int .i64) 3 _ _ _ _ (rd_L2 t398 x5_1) from ge405_0)
   clear hv405_0 ge405_0
   clear hcc405 hce405
   have HR405_0 := Aside0.mk hi405_0
   have HC405_0 := Aside0.mk hl405_0
   clear hi405_0 hl405_0
   replace p405 := eq_true p405
   replace q405 := eq_true q405
   have ea_ := Option.some.inj (hx403_0.symm.trans hx405_0)
   injection ea_ with ea_ en_ ec_
   subst ea_
   subst ec_
   clear en_
   have eb_ := Option.some.inj (hx401_0.symm.trans hx403_0)
   injection eb_ with eb_ en_ ec_
   subst eb_
   subst ec_
   clear en_
   refine start_ (n := 31) (S := fun w' => w'.cell? (ad401.add (x5_1).toNat) = some (.slice A401_0 (rd_L2 t398 x5_1).length c401_0) ∧ w'.cell? (ad401.add (x5_1).toNat) = some (.slice A401_0 (rd_L2 t398 x5_1).length c401_0) ∧ w'.cell? (ad401.add ((ji18)).toNat) = some (.slice A404_0 (rd_L2 t398 (ji18)).length c404_0) ∧ w'.cell? (ad401.add (x5_1).toNat) = some (.slice A401_0 (rd_L2 t398 x5_1).length c401_0)) (ds := []) (bs 31 0) (by kernel_rfl) rfl (by kernel_rfl) ⟨hx401_0, hx403_0, hx404_0, hx405_0⟩ (fun hHeld => ?_); refine with_tabW laws_FnStages.tab8 laws_FnStages.bits8 (fun HT_ HW_ => ?_)
   generalize wr.drew = w27 at HO_3 HO_4 HB HL401_0 HL403_0 HL404_0 HL405_0 HR401_0 HR403_0 HR404_0 HR405_0 hx401_0 hx403_0 hx404_0 hx405_0 hHeld ⊢
   refine pu 0 22 (bs 31 1) HT_ (h := ?_)
   refine pu 1 23 (bs 31 3) HT_ (h := ?_)
   refine pu 2 24 (bs 31 7) HT_ (h := ?_)
   refine pu 3 25 (bs 31 15) HT_ (h := ?_)
   refine tk 4 26 (bs 31 31) HT_ HW_ hHeld (hy := fun w' ⟨s0, s1, s2, s3⟩ => by go_simp; with_reducible rfl) (h := ?_)
   refine one_ (i := 5) (N := some 27) (bs 31 63) rfl rfl (one_of HT_.out (by kernel_rfl)) (by decide) (fun K hK => ?_)
   refine goes_ Try.func37 (by kernel_rfl) rfl #[.slice Ao7 t395.length co7, .slice A401_0 (rd_L2 t398 x5_1).length c401_0] (by rfl) rfl rfl (by (try simp only [List.map_toArray, List.map_cons, List.map_nil]); first | done | rfl | (simp only [List.length_drop, List.length_take]; rfl)) ?_
   with_reducible refine (impl_IsFullStage.calls k1 _ _ t395 _ _ (rd_L2 t398 x5_1) true _ ?side1 ?side2 ?side3 ?side4 A11.out).mono ?_
   (case side1 => repeat (first | exact (Kd.R_reads' HO_3.out).2.2 | (with_reducible refine Kd.C_alloc ?_ _) | (with_reducible refine Kd.C_drewN ?_ _) | (with_reducible refine Kd.C_drew ?_)))
   (case side2 => exact (Kd.R_reads' HO_3.out).2.1)
   (case side3 => repeat (first | exact (by repeat (first | (with_reducible exact HR401_0.out) | (with_reducible refine Kd.C_alloc ?_ _) | (with_reducible refine Kd.C_drewN ?_ _) | (with_reducible refine Kd.C_drew ?_) | exact HR401_0.out)) | (with_reducible refine Kd.C_alloc ?_ _) | (with_reducible refine Kd.C_drewN ?_ _) | (with_reducible refine Kd.C_drew ?_)))
   (case side4 => exact HC401_0.out)
   rintro e w28 ⟨rfl, hb⟩
   have HR404b := Aside0.mk (Kd.C_below HR404_0.out hb)
   have HR405b := Aside0.mk (Kd.C_below HR405_0.out hb)
   have HS0_ := (hb.cell (World.block_lt_of_cell? _ _ (hHeld.1))).trans (hHeld.1)
   have HS1_ := (hb.cell (World.block_lt_of_cell? _ _ (hHeld.2.1))).trans (hHeld.2.1)
   have HS2_ := (hb.cell (World.block_lt_of_cell? _ _ (hHeld.2.2.1))).trans (hHeld.2.2.1)
   have HS3_ := (hb.cell (World.block_lt_of_cell? _ _ (hHeld.2.2.2))).trans (hHeld.2.2.2)
   refine ⟨_, rfl, ?_⟩
   have n0_ := Aside0.mk (Kd.R_below (by (with_reducible repeat (first | apply Kd.R_alloc | apply Kd.R_drewN | apply Kd.R_drew)); exact HO_3.out) hb)
   have n1_ := Aside0.mk (Kd.S_below (by (with_reducible repeat (first | apply Kd.S_alloc | apply Kd.S_drewN | apply Kd.S_drew)); exact HO_4.out) hb)
   have n2_ := Aside0.mk (Kd.R_below (by (with_reducible repeat (first | apply Kd.R_alloc | apply Kd.R_drewN | apply Kd.R_drew)); exact HL401_0.out) hb)
   have n3_ := Aside0.mk (Kd.C_below (by repeat (first | (with_reducible exact HR401_0.out) | (with_reducible refine Kd.C_alloc ?_ _) | (with_reducible refine Kd.C_drewN ?_ _) | (with_reducible refine Kd.C_drew ?_) | exact HR401_0.out)) hb)
   have n4_ := Aside0.mk (below_step (by repeat (first | (with_reducible first | exact HB.out | apply below_alloc | apply pw_below_drewN | apply below_drew1) | exact HB.out)) hb)
   clear HO_3
   clear HO_4
   clear HL401_0
   clear HR401_0
   clear HB
   have HO_3 := n0_
   have HO_4 := n1_
   have HL401_0 := n2_
   have HR401_0 := n3_
   have HB := n4_
   clear n0_ n1_ n2_ n3_ n4_
   (try clear hb)
   (try clear hb2)
   (try clear hk)
   (try clear hi)
   refine hK.out _ _ ⟨HS0_, HS1_, HS2_, HS3_⟩ (fun hHeld => ?_)
   clear hK K
   refine nm 27 (h := ?_)
   refine pu 6 28 (bs 31 127) HT_ (h := ?_)
   refine pu 7 29 (bs 31 255) HT_ (h := ?_)
   refine pu 8 30 (bs 31 511) HT_ (h := ?_)
   refine pu 9 31 (bs 31 1023) HT_ (h := ?_)
   refine pu 10 32 (bs 31 2047) HT_ (h := ?_)
   refine tk 11 33 (bs 31 4095) HT_ HW_ hHeld (hy := fun w' ⟨s0, s1, s2, s3⟩ => by go_simp; with_reducible rfl) (h := ?_)
   refine pu 12 34 (bs 31 8191) HT_ (h := ?_)
   refine pu 13 35 (bs 31 16383) HT_ (h := ?_)
   refine pu 14 36 (bs 31 32767) HT_ (h := ?_)
   refine pu 15 37 (bs 31 65535) HT_ (h := ?_)
   refine pu 16 38 (bs 31 131071) HT_ (h := ?_)
   refine pu 17 39 (bs 31 262143) HT_ (h := ?_)
   refine pu 18 40 (bs 31 524287) HT_ (h := ?_)
   refine pu 19 41 (bs 31 1048575) HT_ (h := ?_)
   refine pu 20 42 (bs 31 2097151) HT_ (h := ?_)
   refine pu 21 43 (bs 31 4194303) HT_ (h := ?_)
   refine pu 22 44 (bs 31 8388607) HT_ (h := ?_)
   refine pu 24 46 (bs 31 25165823) HT_ (h := ?_)
   refine pu 25 47 (bs 31 58720255) HT_ (h := ?_)
   refine pu 26 48 (bs 31 125829119) HT_ (h := ?_)
   refine tk 23 45 (bs 31 134217727) HT_ HW_ hHeld (hy := fun w' ⟨s0, s1, s2, s3⟩ => by go_simp; with_reducible rfl) (h := ?_)
   refine tk 27 49 (bs 31 268435455) HT_ HW_ hHeld (hy := fun w' ⟨s0, s1, s2, s3⟩ => by go_simp; with_reducible rfl) (h := ?_)
   refine one_ (i := 28) (N := some 50) (bs 31 536870911) rfl rfl (one_of HT_.out (by kernel_rfl)) (by decide) (fun K hK => ?_)
   refine goes_ Try.func63 (by kernel_rfl) rfl #[.slice A404_0 (rd_L2 t398 (ji18)).length c404_0, .slice A401_0 (rd_L2 t398 x5_1).length c401_0] (by rfl) rfl rfl (by (try simp only [List.map_toArray, List.map_cons, List.map_nil]); first | done | (simp only [hji18]; rfl) | rfl | (simp only [List.length_drop, List.length_take]; rfl)) ?_
   with_reducible refine (laws_sameInts.calls k1 _ _ (rd_L2 t398 (ji18)) _ _ (rd_L2 t398 x5_1) false _ ?side1 ?side2 ?side3 ?side4 A21.out).mono ?_
   (case side1 => repeat (first | exact (by repeat (first | (with_reducible exact HR404b.out) | (with_reducible refine Kd.C_alloc ?_ _) | (with_reducible refine Kd.C_drewN ?_ _) | (with_reducible refine Kd.C_drew ?_) | exact HR404b.out)) | (with_reducible refine Kd.C_alloc ?_ _) | (with_reducible refine Kd.C_drewN ?_ _) | (with_reducible refine Kd.C_drew ?_)))
   (case side2 => exact HC404_0.out)
   (case side3 => repeat (first | exact (by repeat (first | (with_reducible exact HR405b.out) | (with_reducible refine Kd.C_alloc ?_ _) | (with_reducible refine Kd.C_drewN ?_ _) | (with_reducible refine Kd.C_drew ?_) | exact HR405b.out)) | (with_reducible refine Kd.C_alloc ?_ _) | (with_reducible refine Kd.C_drewN ?_ _) | (with_reducible refine Kd.C_drew ?_)))
   (case side4 => exact HC405_0.out)
   rintro e w' ⟨rfl, ⟨nd, rfl⟩⟩
   refine ⟨_, rfl, ?_⟩
   refine hK.out _ _ ⟨hHeld.1, hHeld.2.1, hHeld.2.2.1, hHeld.2.2.2⟩ (fun hHeld => ?_)
   clear hK K
   refine nm 50 (h := ?_)
   refine pu 29 51 (bs 31 1073741823) HT_ (h := ?_)
   refine pu 30 52 (bs 31 2147483647) HT_ (h := ?_)
   refine done_ (done_of HT_.out (by kernel_rfl)) ?_
   try go_wp2
   go_roundg k1
   case measure => have := HK1.out; omega
   case rel => exact ⟨(wrap64 (x5_1 + 1)), (by first | rfl | (simp; done) | (simp [*]; done)), H', ⟨by have := HK1.out; omega⟩, ⟨by (with_reducible repeat (first | apply Kd.R_alloc | apply Kd.R_drewN | apply Kd.R_drew)); exact HO_3.out⟩, ⟨by (with_reducible repeat (first | apply Kd.S_alloc | apply Kd.S_drewN | apply Kd.S_drew)); exact HO_4.out⟩, ⟨by repeat (first | (with_reducible first | exact HB.out | apply below_alloc | apply pw_below_drewN | apply below_drew1) | exact HB.out)⟩⟩
/-- THE ONE PURE STATEMENT of laws_FnStages: yours. -/
def laws_FnStages.Pure : Prop := ∀ (l0 : List Int), l0.length ≤ maxLen → l0.length * 1 ≤ 140737488351232 → (∀ x ∈ l0, (Lit.int .u8 x).wf = true) → ∃ k, laws_FnStages.f k l0 = some true
theorem laws_FnStages.walk (P : laws_FnStages.Pure) (a0 : Option Addr) (len0 cap0 : Nat) (z0 : List Int) (w : World) (w0 : (a0 = none ∧ len0 = 0 ∧ cap0 = 0 ∧ z0 = []) ∨ ∃ x, a0 = some x ∧ len0 ≤ cap0 ∧ cap0 ≤ maxLen ∧ z0.length = cap0 ∧ (∀ i, i < z0.length → w.cell? (x.add i) = some (.int .u8 (z0.getD i 0))) ∧ ∀ n ∈ z0, (Lit.int .u8 n).wf = true) (y0 : len0 * 1 ≤ 140737488351232) :
    Calls Try.prog 13 #[.slice a0 len0 cap0] w fun e w' => e = .returned (.bool true) ∧ Below w.heap.size w w' := by
  obtain ⟨l0, rfl, hr0, hm0, hw0, hc0⟩ := ReadsInt.ofRowC w0
  obtain ⟨k, h⟩ := P l0 hm0 y0 hw0
  refine (laws_FnStages.calls k _ _ l0 true w (Kd.C_of_reads (d := (0 : Int)) (h1 := fun _ => rfl) hr0) hc0 h).mono ?_
  rintro e w' ⟨rfl, hd⟩
  exact ⟨rfl, hd⟩

end Go.Proofs.Ytldmhlpfkclclaa.PFnStages
