/- Our own text: the functions that FnExactStagesOf reaches, and what a call of each comes to (written by wip/drive.py). Each theorem states its own conditions. -/
import Derived.Test.YtldmhlpfkclclaaQFnExactStagesOfx0
import Derived.Test.YtldmhlpfkclclaaQFnExactStagesOfx1
import Derived.Test.YtldmhlpfkclclaaQFnExactStagesOfx2
import Derived.Test.YtldmhlpfkclclaaQFnExactStagesOfx7
import Derived.Test.YtldmhlpfkclclaaQFnExactStagesOfx9
import Derived.Test.YtldmhlpfkclclaaQFnExactStagesOfx12
import Derived.Test.YtldmhlpfkclclaaQFnExactStagesOfx13
import Derived.Test.YtldmhlpfkclclaaQFnExactStagesOfx14
namespace Go.Proofs.Ytldmhlpfkclclaa.PFnExactStagesOf
open Go.RowKit Go.Proofs.YtldmhlpfkclclaaW.PrintWords Go.Proofs.YtldmhlpfkclclaaW.PrintLast Go.Proofs.YtldmhlpfkclclaaW.PrintMore
attribute [local go_sem] max2_int min2_int max_two min_two max_three min_three max_four min_four   -- for this text's walks alone
set_option linter.unusedVariables false
set_option linter.unusedSimpArgs false

/-! ### spec_IsFullStage: function 36 -/
def spec_IsFullStage.l0 : Nat → List (S50) → List Int → Int → Option (Bool)
  | 0, _, _, _ => none
  | k + 1, x0, x1, x5 => if x5 < (x0.length : Int) then (if 0 ≤ x5 then ((spec_l6Has.f k x1 ((rd_T50 x0 x5).f0)).bind fun t275 => (if t275 = true then (spec_IsFullStage.l0 k x0 x1 (wrap64 (x5 + 1))) else ((spec_l6Put.f k x1 ((rd_T50 x0 x5).f0)).bind fun t277 => ((spec_IsTogether.f k x0 t277).bind fun t280 => (if t280 = true then (some false) else (spec_IsFullStage.l0 k x0 x1 (wrap64 (x5 + 1)))))))) else (none)) else ((spec_IsTogether.f k x0 x1).bind fun t273 => (some t273))
def spec_IsFullStage.f (k : Nat) (l0 : List (S50)) (l1 : List Int) : Option (Bool) := spec_IsFullStage.l0 k l0 l1 0
theorem spec_IsFullStage.mono_l : ∀ k, (∀ y0 y1 y2, LeO (spec_IsFullStage.l0 k y0 y1 y2) (spec_IsFullStage.l0 (k + 1) y0 y1 y2))
  | 0 => fun _ _ _ r h => by simp [spec_IsFullStage.l0] at h
  | k + 1 => by
    have ih0 := spec_IsFullStage.mono_l k
    · intro y0 y1 y2
      unfold spec_IsFullStage.l0
      repeat' first
      | (with_reducible exact ih0 _ _ _)
      | (with_reducible exact spec_IsTogether.mono _ _ _)
      | (with_reducible exact spec_l6Has.mono _ _ _)
      | (with_reducible exact spec_l6Put.mono _ _ _)
      | (with_reducible exact LeO.refl _)
      | (with_reducible exact LeO.none _)
      | (with_reducible refine LeO.ite ?_ ?_)
      | (with_reducible refine LeO.bind ?_ (fun _ => ?_))
      | exact ih0 _ _ _
      | exact spec_IsTogether.mono _ _ _
      | exact spec_l6Has.mono _ _ _
      | exact spec_l6Put.mono _ _ _
      | exact LeO.none _
      | refine LeO.ite ?_ ?_
      | refine LeO.bind ?_ (fun _ => ?_)
theorem spec_IsFullStage.mono : ∀ a0 a1 k, LeO (spec_IsFullStage.f k a0 a1) (spec_IsFullStage.f (k + 1) a0 a1) := by
  intro a0 a1 k
  have ih0 := spec_IsFullStage.mono_l k
  unfold spec_IsFullStage.f
  repeat' first
      | (with_reducible exact ih0 _ _ _)
      | (with_reducible exact spec_IsTogether.mono _ _ _)
      | (with_reducible exact spec_l6Has.mono _ _ _)
      | (with_reducible exact spec_l6Put.mono _ _ _)
      | (with_reducible exact LeO.refl _)
      | (with_reducible exact LeO.none _)
      | (with_reducible refine LeO.ite ?_ ?_)
      | (with_reducible refine LeO.bind ?_ (fun _ => ?_))
      | exact ih0 _ _ _
      | exact spec_IsTogether.mono _ _ _
      | exact spec_l6Has.mono _ _ _
      | exact spec_l6Put.mono _ _ _
      | exact LeO.none _
      | refine LeO.ite ?_ ?_
      | refine LeO.bind ?_ (fun _ => ?_)
set_option maxHeartbeats 8000000 in
set_option maxRecDepth 100000 in
theorem spec_IsFullStage.calls (k : Nat) (A0 : Option Addr) (c0 : Nat) (l0 : List (S50)) (A1 : Option Addr) (c1 : Nat) (l1 : List Int) (r : Bool) (w : World) (hr0 : Kd.C k50 w A0 l0.length l0) (hc0 : l0.length ≤ c0) (hr1 : Kd.C (Kd.int .i64) w A1 l1.length l1) (hc1 : l1.length ≤ c1) (h : spec_IsFullStage.f k l0 l1 = some r) :
    Calls Try.prog 36 #[.slice A0 l0.length c0, .slice A1 l1.length c1] w fun e w' => e = .returned (.bool r) ∧ Below w.heap.size w w' := by
 have HR0 := Aside0.mk hr0
 have HC0 := Aside0.mk hc0
 clear hr0 hc0
 have HR1 := Aside0.mk hr1
 have HC1 := Aside0.mk hc1
 clear hr1 hc1
 have HB := Aside0.mk (Below.refl w.heap.size w)
 have H : (spec_IsFullStage.l0 k l0 l1 0) = some r := h
 clear h
 have H' := Aside0.mk H
 clear H
 go_enter Try.func36, Try.ntmps36
 go_wp2
 go_loopg [5] k (fun kq v5 w' => ∃ (x5_1 : Int), v5 = .int .i64 x5_1 ∧ Aside0 (spec_IsFullStage.l0 kq l0 l1 x5_1 = some r) ∧ Aside0 (kq ≤ k) ∧ Aside0 (Below w.heap.size w w'))
 case atStart => exact ⟨(0), (by first | rfl | (simp; done) | (simp [*]; done)), H', ⟨Nat.le_refl _⟩, ⟨by repeat (first | (with_reducible first | exact HB.out | apply below_alloc | apply pw_below_drewN | apply below_drew1) | exact HB.out)⟩⟩
 case round =>
  clear H'
  try clear c1
  try clear p2
  obtain ⟨x5_1, rfl, HA, HK1, HB⟩ := hrel
  cases gk with
  | zero => exact absurd HA.out (by simp [spec_IsFullStage.l0])
  | succ k1 =>
   have H := HA.out
   clear HA
   simp only [spec_IsFullStage.l0] at H
   by_cases c3 : x5_1 < (l0.length : Int)
   rotate_left
   ·
    rw [if_neg c3] at H
    have c3b0 : decide (x5_1 < (l0.length : Int)) = false := decide_eq_false c3
    clear c3
    replace H := Option.bind_eq_some_iff.mp H
    obtain ⟨t273, A160, H⟩ := H
    try dsimp only at H
    have A16 := Aside0.mk A160
    clear A160
    obtain rfl := Option.some.inj H
    go_wp2_with (first | ((with_reducible refine gate_callee (f := 20) rfl ?_); refine goesL_ (some 33) rfl rfl Try.func20 (by kernel_rfl) rfl #[.slice A0 l0.length c0, .slice A1 l1.length c1] rfl (by (try simp only [List.map_toArray, List.map_cons, List.map_nil]); first | done | rfl | (simp only [List.length_drop, List.length_take]; rfl)) ?_; (with_reducible refine (spec_IsTogether.calls k1 _ _ l0 _ _ l1 t273 _ ?side1 ?side2 ?side3 ?side4 A16.out).mono ?_); (case side1 => repeat (first | exact (Kd.C_below HR0.out HB.out) | (with_reducible refine Kd.C_alloc ?_ _) | (with_reducible refine Kd.C_drewN ?_ _) | (with_reducible refine Kd.C_drew ?_))); (case side2 => exact HC0.out); (case side3 => repeat (first | exact (Kd.C_below HR1.out HB.out) | (with_reducible refine Kd.C_alloc ?_ _) | (with_reducible refine Kd.C_drewN ?_ _) | (with_reducible refine Kd.C_drew ?_))); (case side4 => exact HC1.out); rintro e w17 ⟨rfl, hb⟩; refine ⟨_, rfl, ?_⟩; have n0_ := Aside0.mk (below_step (by repeat (first | (with_reducible first | exact HB.out | apply below_alloc | apply pw_below_drewN | apply below_drew1) | exact HB.out)) hb); clear HB; have HB := n0_; clear n0_; (try clear hb); (try clear hb2); (try clear hk); (try clear hi)))
    go_ret
    exact ⟨by first | rfl | (simp [errW_none, errW_some] <;> rfl) | (simp [*, errW_none, errW_some] <;> rfl), by repeat (first | (with_reducible first | exact HB.out | apply below_alloc | apply pw_below_drewN | apply below_drew1) | exact HB.out)⟩
   rw [if_pos c3] at H
   have c3b0 : decide (x5_1 < (l0.length : Int)) = true := decide_eq_true c3
   clear c3
   by_cases c4 : 0 ≤ x5_1
   rotate_left
   ·
    rw [if_neg c4] at H
    exact absurd H (by simp)
   rw [if_pos c4] at H
   have c4b0 : decide (0 ≤ x5_1) = true := decide_eq_true c4
   clear c4
   replace H := Option.bind_eq_some_iff.mp H
   obtain ⟨t275, A50, H⟩ := H
   try dsimp only at H
   have A5 := Aside0.mk A50
   clear A50
   by_cases c6 : t275 = true
   ·
    subst c6
    have H1 : (spec_IsFullStage.l0 k1 l0 l1 (wrap64 (x5_1 + 1))) = some r := by rw [if_pos rfl] at H; exact H
    clear H
    have H := H1
    clear H1
    have H' := Aside0.mk H
    clear H
    have p274 : 0 ≤ (x5_1 : Int) := of_decide_eq_true (by first | (with_reducible assumption) | assumption)
    have q274 : x5_1 < (l0.length : Int) := of_decide_eq_true (by first | (with_reducible assumption) | assumption)
    obtain ⟨ad274, e274, hx274_0, hx274_1, hx274_2, hx274_3⟩ := at_T50 HR0.out x5_1 p274 q274
    cases e274
    replace hx274_0 := (HB.out.cell (World.block_lt_of_cell? w _ hx274_0)).trans hx274_0
    replace hx274_1 := (HB.out.cell (World.block_lt_of_cell? w _ hx274_1)).trans hx274_1
    replace hx274_2 := (HB.out.cell (World.block_lt_of_cell? w _ hx274_2)).trans hx274_2
    replace hx274_3 := (HB.out.cell (World.block_lt_of_cell? w _ hx274_3)).trans hx274_3
    replace p274 := eq_true p274
    replace q274 := eq_true q274
    go_wp2_with (first | ((with_reducible refine gate_callee (f := 77) rfl ?_); refine goesL_ (some 18) rfl rfl Try.func77 (by kernel_rfl) rfl #[.slice A1 l1.length c1, .int .i64 ((rd_T50 l0 x5_1).f0)] rfl (by (try simp only [List.map_toArray, List.map_cons, List.map_nil]); first | done | rfl | (simp only [List.length_drop, List.length_take]; rfl)) ?_; (with_reducible refine (spec_l6Has.calls k1 _ _ l1 ((rd_T50 l0 x5_1).f0) true _ ?side1 ?side2 A5.out).mono ?_); (case side1 => repeat (first | exact (Kd.C_below HR1.out HB.out) | (with_reducible refine Kd.C_alloc ?_ _) | (with_reducible refine Kd.C_drewN ?_ _) | (with_reducible refine Kd.C_drew ?_))); (case side2 => exact HC1.out); rintro e w' ⟨rfl, ⟨nd, rfl⟩⟩; refine ⟨_, rfl, ?_⟩))
    go_roundg k1
    case measure => have := HK1.out; omega
    case rel => exact ⟨(wrap64 (x5_1 + 1)), (by first | rfl | (simp; done) | (simp [*]; done)), H', ⟨by have := HK1.out; omega⟩, ⟨by repeat (first | (with_reducible first | exact HB.out | apply below_alloc | apply pw_below_drewN | apply below_drew1) | exact HB.out)⟩⟩
   replace c6 := Bool.eq_false_iff.mpr c6
   subst c6
   have H1 : ((spec_l6Put.f k1 l1 ((rd_T50 l0 x5_1).f0)).bind fun t277 => ((spec_IsTogether.f k1 l0 t277).bind fun t280 => (if t280 = true then (some false) else (spec_IsFullStage.l0 k1 l0 l1 (wrap64 (x5_1 + 1)))))) = some r := by rw [if_neg (show ¬ (false = true) by decide)] at H; exact H
   clear H
   have H := H1
   clear H1
   replace H := Option.bind_eq_some_iff.mp H
   obtain ⟨t277, A70, H⟩ := H
   try dsimp only at H
   have A7 := Aside0.mk A70
   clear A70
   replace H := Option.bind_eq_some_iff.mp H
   obtain ⟨t280, A80, H⟩ := H
   try dsimp only at H
   have A8 := Aside0.mk A80
   clear A80
   by_cases c9 : t280 = true
   ·
    subst c9
    have H1 : (some false) = some r := by rw [if_pos rfl] at H; exact H
    clear H
    have H := H1
    clear H1
    obtain rfl := Option.some.inj H
    have p274 : 0 ≤ (x5_1 : Int) := of_decide_eq_true (by first | (with_reducible assumption) | assumption)
    have q274 : x5_1 < (l0.length : Int) := of_decide_eq_true (by first | (with_reducible assumption) | assumption)
    obtain ⟨ad274, e274, hx274_0, hx274_1, hx274_2, hx274_3⟩ := at_T50 HR0.out x5_1 p274 q274
    cases e274
    replace hx274_0 := (HB.out.cell (World.block_lt_of_cell? w _ hx274_0)).trans hx274_0
    replace hx274_1 := (HB.out.cell (World.block_lt_of_cell? w _ hx274_1)).trans hx274_1
    replace hx274_2 := (HB.out.cell (World.block_lt_of_cell? w _ hx274_2)).trans hx274_2
    replace hx274_3 := (HB.out.cell (World.block_lt_of_cell? w _ hx274_3)).trans hx274_3
    replace p274 := eq_true p274
    replace q274 := eq_true q274
    go_wp2_with (first | ((with_reducible refine gate_callee (f := 77) rfl ?_); refine goesL_ (some 18) rfl rfl Try.func77 (by kernel_rfl) rfl #[.slice A1 l1.length c1, .int .i64 ((rd_T50 l0 x5_1).f0)] rfl (by (try simp only [List.map_toArray, List.map_cons, List.map_nil]); first | done | rfl | (simp only [List.length_drop, List.length_take]; rfl)) ?_; (with_reducible refine (spec_l6Has.calls k1 _ _ l1 ((rd_T50 l0 x5_1).f0) false _ ?side1 ?side2 A5.out).mono ?_); (case side1 => repeat (first | exact (Kd.C_below HR1.out HB.out) | (with_reducible refine Kd.C_alloc ?_ _) | (with_reducible refine Kd.C_drewN ?_ _) | (with_reducible refine Kd.C_drew ?_))); (case side2 => exact HC1.out); rintro e w' ⟨rfl, ⟨nd, rfl⟩⟩; refine ⟨_, rfl, ?_⟩; have p276 : 0 ≤ (x5_1 : Int) := of_decide_eq_true (by first | (with_reducible assumption) | assumption); have q276 : x5_1 < (l0.length : Int) := of_decide_eq_true (by first | (with_reducible assumption) | assumption); obtain ⟨ad276, e276, hx276_0, hx276_1, hx276_2, hx276_3⟩ := at_T50 HR0.out x5_1 p276 q276; obtain rfl : ad274 = ad276 := (by injection e276); replace hx276_0 := (HB.out.cell (World.block_lt_of_cell? w _ hx276_0)).trans hx276_0; replace hx276_1 := (HB.out.cell (World.block_lt_of_cell? w _ hx276_1)).trans hx276_1; replace hx276_2 := (HB.out.cell (World.block_lt_of_cell? w _ hx276_2)).trans hx276_2; replace hx276_3 := (HB.out.cell (World.block_lt_of_cell? w _ hx276_3)).trans hx276_3; replace p276 := eq_true p276; replace q276 := eq_true q276) | (go_at_call 79; (with_reducible refine (spec_l6Put.calls k1 _ _ l1 ((rd_T50 l0 x5_1).f0) t277 _ ?side1 ?side2 A7.out).mono ?_); (case side1 => repeat (first | exact (Kd.C_below HR1.out (by repeat (first | (with_reducible first | exact HB.out | apply below_alloc | apply pw_below_drewN | apply below_drew1) | exact HB.out))) | (with_reducible refine Kd.C_alloc ?_ _) | (with_reducible refine Kd.C_drewN ?_ _) | (with_reducible refine Kd.C_drew ?_))); (case side2 => exact HC1.out); rintro e w10 ⟨v278, rfl, ho0, hb⟩; have n0_ := Aside0.mk (Kd.R_lower ho0 (below_size (by repeat (first | (with_reducible first | exact HB.out | apply below_alloc | apply pw_below_drewN | apply below_drew1) | exact HB.out)))); have n1_ := Aside0.mk (below_step (by repeat (first | (with_reducible first | exact HB.out | apply below_alloc | apply pw_below_drewN | apply below_drew1) | exact HB.out)) hb); clear HB; have HO279 := n0_; have HB := n1_; clear n0_ n1_; (try clear hb); (try clear hb2); (try clear hk); (try clear hi); (try clear ho0); obtain ⟨Ao11, co11, eo11⟩ := Kd.R_slice HO279.out; subst eo11) | (go_at_call 20; (with_reducible refine (spec_IsTogether.calls k1 _ _ l0 _ _ t277 true _ ?side1 ?side2 ?side3 ?side4 A8.out).mono ?_); (case side1 => repeat (first | exact (Kd.C_below HR0.out HB.out) | (with_reducible refine Kd.C_alloc ?_ _) | (with_reducible refine Kd.C_drewN ?_ _) | (with_reducible refine Kd.C_drew ?_))); (case side2 => exact HC0.out); (case side3 => repeat (first | exact (Kd.R_reads' HO279.out).2.2 | (with_reducible refine Kd.C_alloc ?_ _) | (with_reducible refine Kd.C_drewN ?_ _) | (with_reducible refine Kd.C_drew ?_))); (case side4 => exact (Kd.R_reads' HO279.out).2.1); rintro e w12 ⟨rfl, hb⟩; have n0_ := Aside0.mk (Kd.R_below (by (with_reducible repeat (first | apply Kd.R_alloc | apply Kd.R_drewN | apply Kd.R_drew)); exact HO279.out) hb); have n1_ := Aside0.mk (below_step (by repeat (first | (with_reducible first | exact HB.out | apply below_alloc | apply pw_below_drewN | apply below_drew1) | exact HB.out)) hb); clear HO279; clear HB; have HO279 := n0_; have HB := n1_; clear n0_ n1_; (try clear hb); (try clear hb2); (try clear hk); (try clear hi)))
    go_ret
    exact ⟨by first | rfl | (simp [errW_none, errW_some] <;> rfl) | (simp [*, errW_none, errW_some] <;> rfl), by repeat (first | (with_reducible first | exact HB.out | apply below_alloc | apply pw_below_drewN | apply below_drew1) | exact HB.out)⟩
   replace c9 := Bool.eq_false_iff.mpr c9
   subst c9
   have H1 : (spec_IsFullStage.l0 k1 l0 l1 (wrap64 (x5_1 + 1))) = some r := by rw [if_neg (show ¬ (false = true) by decide)] at H; exact H
   clear H
   have H := H1
   clear H1
   have H' := Aside0.mk H
   clear H
   have p274 : 0 ≤ (x5_1 : Int) := of_decide_eq_true (by first | (with_reducible assumption) | assumption)
   have q274 : x5_1 < (l0.length : Int) := of_decide_eq_true (by first | (with_reducible assumption) | assumption)
   obtain ⟨ad274, e274, hx274_0, hx274_1, hx274_2, hx274_3⟩ := at_T50 HR0.out x5_1 p274 q274
   cases e274
   replace hx274_0 := (HB.out.cell (World.block_lt_of_cell? w _ hx274_0)).trans hx274_0
   replace hx274_1 := (HB.out.cell (World.block_lt_of_cell? w _ hx274_1)).trans hx274_1
   replace hx274_2 := (HB.out.cell (World.block_lt_of_cell? w _ hx274_2)).trans hx274_2
   replace hx274_3 := (HB.out.cell (World.block_lt_of_cell? w _ hx274_3)).trans hx274_3
   replace p274 := eq_true p274
   replace q274 := eq_true q274
   go_wp2_with (first | ((with_reducible refine gate_callee (f := 77) rfl ?_); refine goesL_ (some 18) rfl rfl Try.func77 (by kernel_rfl) rfl #[.slice A1 l1.length c1, .int .i64 ((rd_T50 l0 x5_1).f0)] rfl (by (try simp only [List.map_toArray, List.map_cons, List.map_nil]); first | done | rfl | (simp only [List.length_drop, List.length_take]; rfl)) ?_; (with_reducible refine (spec_l6Has.calls k1 _ _ l1 ((rd_T50 l0 x5_1).f0) false _ ?side1 ?side2 A5.out).mono ?_); (case side1 => repeat (first | exact (Kd.C_below HR1.out HB.out) | (with_reducible refine Kd.C_alloc ?_ _) | (with_reducible refine Kd.C_drewN ?_ _) | (with_reducible refine Kd.C_drew ?_))); (case side2 => exact HC1.out); rintro e w' ⟨rfl, ⟨nd, rfl⟩⟩; refine ⟨_, rfl, ?_⟩; have p276 : 0 ≤ (x5_1 : Int) := of_decide_eq_true (by first | (with_reducible assumption) | assumption); have q276 : x5_1 < (l0.length : Int) := of_decide_eq_true (by first | (with_reducible assumption) | assumption); obtain ⟨ad276, e276, hx276_0, hx276_1, hx276_2, hx276_3⟩ := at_T50 HR0.out x5_1 p276 q276; obtain rfl : ad274 = ad276 := (by injection e276); replace hx276_0 := (HB.out.cell (World.block_lt_of_cell? w _ hx276_0)).trans hx276_0; replace hx276_1 := (HB.out.cell (World.block_lt_of_cell? w _ hx276_1)).trans hx276_1; replace hx276_2 := (HB.out.cell (World.block_lt_of_cell? w _ hx276_2)).trans hx276_2; replace hx276_3 := (HB.out.cell (World.block_lt_of_cell? w _ hx276_3)).trans hx276_3; replace p276 := eq_true p276; replace q276 := eq_true q276) | (go_at_call 79; (with_reducible refine (spec_l6Put.calls k1 _ _ l1 ((rd_T50 l0 x5_1).f0) t277 _ ?side1 ?side2 A7.out).mono ?_); (case side1 => repeat (first | exact (Kd.C_below HR1.out (by repeat (first | (with_reducible first | exact HB.out | apply below_alloc | apply pw_below_drewN | apply below_drew1) | exact HB.out))) | (with_reducible refine Kd.C_alloc ?_ _) | (with_reducible refine Kd.C_drewN ?_ _) | (with_reducible refine Kd.C_drew ?_))); (case side2 => exact HC1.out); rintro e w13 ⟨v278, rfl, ho0, hb⟩; have n0_ := Aside0.mk (Kd.R_lower ho0 (below_size (by repeat (first | (with_reducible first | exact HB.out | apply below_alloc | apply pw_below_drewN | apply below_drew1) | exact HB.out)))); have n1_ := Aside0.mk (below_step (by repeat (first | (with_reducible first | exact HB.out | apply below_alloc | apply pw_below_drewN | apply below_drew1) | exact HB.out)) hb); clear HB; have HO279 := n0_; have HB := n1_; clear n0_ n1_; (try clear hb); (try clear hb2); (try clear hk); (try clear hi); (try clear ho0); obtain ⟨Ao14, co14, eo14⟩ := Kd.R_slice HO279.out; subst eo14) | (go_at_call 20; (with_reducible refine (spec_IsTogether.calls k1 _ _ l0 _ _ t277 false _ ?side1 ?side2 ?side3 ?side4 A8.out).mono ?_); (case side1 => repeat (first | exact (Kd.C_below HR0.out HB.out) | (with_reducible refine Kd.C_alloc ?_ _) | (with_reducible refine Kd.C_drewN ?_ _) | (with_reducible refine Kd.C_drew ?_))); (case side2 => exact HC0.out); (case side3 => repeat (first | exact (Kd.R_reads' HO279.out).2.2 | (with_reducible refine Kd.C_alloc ?_ _) | (with_reducible refine Kd.C_drewN ?_ _) | (with_reducible refine Kd.C_drew ?_))); (case side4 => exact (Kd.R_reads' HO279.out).2.1); rintro e w15 ⟨rfl, hb⟩; have n0_ := Aside0.mk (Kd.R_below (by (with_reducible repeat (first | apply Kd.R_alloc | apply Kd.R_drewN | apply Kd.R_drew)); exact HO279.out) hb); have n1_ := Aside0.mk (below_step (by repeat (first | (with_reducible first | exact HB.out | apply below_alloc | apply pw_below_drewN | apply below_drew1) | exact HB.out)) hb); clear HO279; clear HB; have HO279 := n0_; have HB := n1_; clear n0_ n1_; (try clear hb); (try clear hb2); (try clear hk); (try clear hi)))
   go_roundg k1
   case measure => have := HK1.out; omega
   case rel => exact ⟨(wrap64 (x5_1 + 1)), (by first | rfl | (simp; done) | (simp [*]; done)), H', ⟨by have := HK1.out; omega⟩, ⟨by repeat (first | (with_reducible first | exact HB.out | apply below_alloc | apply pw_below_drewN | apply below_drew1) | exact HB.out)⟩⟩
/-! ### spec_l6Search: function 98 -/
def spec_l6Search.f : Nat → List S50 → Int → List Int → List (List Int) → Option (List (List Int))
  | 0, _, _, _, _ => none
  | k + 1, l0, a1, l2, xo => if a1 = (l0.length : Int) then (if 0 < (l2.length : Int) then (if (xo.length : Int) < 40 then ((spec_IsFullStage.f k l0 l2).bind fun t => if t = true then (if l2.length < 17592186044415 then some (xo ++ [l2]) else none) else some xo) else some xo) else some xo) else (if l2.length < 17592186044415 then (if 0 ≤ a1 then (if a1 < (l0.length : Int) then ((spec_IsTogether.f k l0 (l2 ++ [(rd_T50 l0 a1).f0])).bind fun t => if t = true then ((spec_l6Search.f k l0 (wrap64 (a1 + 1)) (l2 ++ [(rd_T50 l0 a1).f0]) xo).bind fun o => spec_l6Search.f k l0 (wrap64 (a1 + 1)) l2 o) else spec_l6Search.f k l0 (wrap64 (a1 + 1)) l2 xo) else none) else none) else none)
theorem spec_l6Search.mono_l : ∀ k, (∀ y0 y1 y2 y3, LeO (spec_l6Search.f k y0 y1 y2 y3) (spec_l6Search.f (k + 1) y0 y1 y2 y3))
  | 0 => fun _ _ _ _ r h => by simp [spec_l6Search.f] at h
  | k + 1 => by
    have ih0 := spec_l6Search.mono_l k
    intro y0 y1 y2 y3
    unfold spec_l6Search.f
    repeat' first
    | (with_reducible exact ih0 _ _ _ _)
    | (with_reducible exact spec_IsFullStage.mono _ _ _)
    | (with_reducible exact spec_IsTogether.mono _ _ _)
    | (with_reducible exact LeO.refl _)
    | (with_reducible exact LeO.none _)
    | (with_reducible refine LeO.ite ?_ ?_)
    | (with_reducible refine LeO.bind ?_ (fun _ => ?_))
theorem spec_l6Search.mono : ∀ a0 a1 a2 a3 k, LeO (spec_l6Search.f k a0 a1 a2 a3) (spec_l6Search.f (k + 1) a0 a1 a2 a3) := fun a0 a1 a2 a3 k => spec_l6Search.mono_l k a0 a1 a2 a3
def spec_l6Search.T5 : Bool × List (List Nat × List Nat) := (true, [([], []), ([], []), ([0, 1], [0, 1]), ([], []), ([], []), ([3, 4], [3, 4]), ([5], [5]), ([6], [6]), ([7], [7]), ([2, 8, 2], [2, 8]), ([9, 9, 0, 1, 2, 3, 4, 5, 6, 7, 8, 9], [9])])
def spec_l6Search.B5 : List Nat := [0, 0, 3, 0, 0, 24, 56, 120, 248, 511, 1023]
theorem spec_l6Search.tab5 : rtab .any (opsOf Try.f98 5) = spec_l6Search.T5 := by kernel_rfl
theorem spec_l6Search.bits5 : waitsOk spec_l6Search.T5.2 spec_l6Search.B5 = true := by kernel_rfl
set_option maxHeartbeats 8000000 in
set_option maxRecDepth 100000 in
theorem spec_l6Search.calls (w0 : World) (A0 : Option Addr) (c0 : Nat) (l0 : List S50) (hc0 : l0.length ≤ c0) (k : Nat) : ∀ (a1 : Int) (A2 : Option Addr) (c2 : Nat) (l2 : List Int) (P : Nat → Prop) (u : Value) (xo r : List (List Int)) (w : World) (hB : Below w0.heap.size w0 w) (hr0 : Kd.F k50 w (fun g => ¬ P g) A0 l0.length l0) (hr2 : Kd.F (Kd.int .i64) w (fun g => ¬ P g) A2 l2.length l2) (hc2 : l2.length ≤ c2) (ho : Kd.S (Kd.slice 3 (Kd.int .i64)) 29 w w0.heap.size P u xo) (h : spec_l6Search.f k l0 a1 l2 xo = some r),
    Calls Try.prog 98 #[.slice A0 l0.length c0, .int .i64 a1, .slice A2 l2.length c2, u] w fun e w' => ∃ v0_ : Value, e = .returned (v0_) ∧ Kd.S (Kd.slice 3 (Kd.int .i64)) 29 w' w0.heap.size (fun g => P g ∨ w.heap.size ≤ g) v0_ r ∧ Below w0.heap.size w0 w' ∧ Kept w w' P := by
 induction k with
 | zero => intro a1 A2 c2 l2 P u xo r w hB hr0 hr2 hc2 ho h; exact absurd h (by simp [spec_l6Search.f])
 | succ k ih =>
 intro a1 A2 c2 l2 P u xo r w hB hr0 hr2 hc2 ho h
 have hu50 := Try.underlying50
 have HF0 := Aside0.mk hr0
 have HF2 := Aside0.mk hr2
 have HB0 := Aside0.mk hB
 have HC0 := Aside0.mk hc0
 have HC2 := Aside0.mk hc2
 have HR0 := Aside0.mk (Kd.F_now hr0)
 have HR2 := Aside0.mk (Kd.F_now hr2)
 have HB := Aside0.mk (Below.refl w.heap.size w)
 have HS := Aside0.mk (below_size hB)
 have IH := Aside0.mk ih
 obtain ⟨Ao, co, eo⟩ := Kd.S_slice ho
 subst eo
 have HO := Aside0.mk (Kd.S_mono (ok' := fun g => P g ∧ g < w.heap.size) (Kd.S_bound ho) (fun _ hk => ⟨hk.1, hk.2.2.1⟩))
 clear hr0 hr2 hc0 hc2 ho hB ih
 have H := h
 clear h
 simp only [spec_l6Search.f] at H
 by_cases c3 : a1 = (l0.length : Int)
 ·
  rw [if_pos c3] at H
  have c3b0 : (a1 == (l0.length : Int)) = true := beq_iff_eq.mpr c3
  clear c3
  by_cases c4 : 0 < (l2.length : Int)
  rotate_left
  ·
   rw [if_neg c4] at H
   have c4b0 : decide (0 < (l2.length : Int)) = false := decide_eq_false c4
   have c4n : (0 < l2.length) = False := eq_false (by omega)
   clear c4
   obtain rfl := Option.some.inj H
   go_enter Try.func98, Try.ntmps98
   go_wp2
   go_ret
   exact ⟨_, rfl, Kd.S_mono HO.out (fun _ hk => .inl hk.1), HB0.out, Kept.refl _ _⟩
  rw [if_pos c4] at H
  have c4b0 : decide (0 < (l2.length : Int)) = true := decide_eq_true c4
  have c4n : (0 < l2.length) = True := eq_true (by omega)
  clear c4
  by_cases c5 : (xo.length : Int) < 40
  rotate_left
  ·
   rw [if_neg c5] at H
   have c5b0 : decide ((xo.length : Int) < 40) = false := decide_eq_false c5
   clear c5
   obtain rfl := Option.some.inj H
   go_enter Try.func98, Try.ntmps98
   go_wp2
   go_ret
   exact ⟨_, rfl, Kd.S_mono HO.out (fun _ hk => .inl hk.1), HB0.out, Kept.refl _ _⟩
  rw [if_pos c5] at H
  have LMo := Aside0.mk c5
  have c5b0 : decide ((xo.length : Int) < 40) = true := decide_eq_true c5
  clear c5
  replace H := Option.bind_eq_some_iff.mp H
  obtain ⟨t, A1, H⟩ := H
  have B1 := Aside0.mk A1
  clear A1
  cases t with
  | false =>
   rw [if_neg (show ¬ (false = true) by decide)] at H
   obtain rfl := Option.some.inj H
   go_enter Try.func98, Try.ntmps98
   go_wp2_with (first
     | (go_at_call 36; (with_reducible refine (spec_IsFullStage.calls k _ _ l0 _ _ l2 false _ HR0.out HC0.out HR2.out HC2.out B1.out).mono ?_); rintro e w1 ⟨rfl, hb⟩; have n1_ := Aside0.mk (below_step HB.out hb); clear HB hb; have HB := n1_; clear n1_))
   go_ret
   exact ⟨_, rfl, Kd.S_mono (Kd.S_below HO.out HB.out) (fun _ hk => .inl hk.1), below_step HB0.out HB.out, Kept.of_below HB.out _⟩
  | true =>
   rw [if_pos rfl] at H
   by_cases c6 : l2.length < 17592186044415
   rotate_left
   ·
    rw [if_neg c6] at H; exact absurd H (by simp)
   rw [if_pos c6] at H
   have LM := Aside0.mk c6
   clear c6
   obtain ⟨y0, hy0⟩ : ∃ y_ : List Int, y_ = [] := ⟨_, rfl⟩
   have Ny0 := Aside0.mk hy0
   obtain ⟨y1, hy1⟩ : ∃ y_ : List Int, y_ = y0 ++ l2 := ⟨_, rfl⟩
   have Ny1 := Aside0.mk hy1
   rw [show xo ++ [l2] = xo ++ [y1] by rw [hy1, hy0]; rfl] at H
   have LM0 : Aside0 (y0.length + l2.length < 17592186044415) := ⟨by have := LM.out; rw [hy0]; simp; omega⟩
   obtain rfl := Option.some.inj H
   clear hy0 hy1 LM
   go_enter Try.func98, Try.ntmps98
   go_wp2_with (first
     | (go_at_call 36; (with_reducible refine (spec_IsFullStage.calls k _ _ l0 _ _ l2 true _ HR0.out HC0.out HR2.out HC2.out B1.out).mono ?_); rintro e w1 ⟨rfl, hb⟩; have n1_ := Aside0.mk (below_step HB.out hb); clear HB hb; have HB := n1_; clear n1_)
     | ((with_reducible refine gate_dst (N := 28) rfl ?_); refine Kd.R_lit (Kd.int .i64) _ 3 ?hg (N := 28) ?hd (xs := ([] : List Int)) (inner := []) (ok := fun _ => True) (okp := fun _ => True) ?hr ?hp (fun _ hk => hk) trivial (Below.refl _ _) (Nat.le_refl _) (by simp) ?_; (case hd => rfl); (case hg => rfl); (case hr => first | (go_simp; done) | (go_simp; rfl)); (case hp => exact (Reps.none _ _)); intro vy w2 hoy hb hg_ hnew_; clear hg_ hnew_; rw [← Ny0.out] at hoy; have HY := Aside0.mk (Kd.R_lower hoy (below_size HB.out)); have n1_ := Aside0.mk (below_step HB.out hb); clear HB hb hoy; have HB := n1_; clear n1_)
     | ((with_reducible refine gate_builtin (b := .append) (xs := #[.tmp 28, .tmp 29]) rfl ?_); at_builtin; refine Kd.R_append_rows (Kd.int .i64) (w0 := w) w.heap.size rfl (.tmp 28) (.tmp 29) 29 3 (.int .i64 0) 8 rfl Try.underlying29 info3 rfl (by decide) (by omega) vy y0 l2 _ _ _ (fun _ => True) (fun _ => False) rfl rfl ?aO ?aR (fun _ _ h => h) (fun _ h => h.elim) (fun _ _ => trivial) HB.out (below_size HB.out) ?aL ?_; (case aR => exact (Kd.C_below HR2.out HB.out)); (case aO => exact HY.out); (case aL => have := LM0.out; omega); intro v3 w3 ho hb hg hat; rw [← Ny1.out] at ho; have HT := Aside0.mk (Kd.R_lower (Kd.R_mono (ok' := fun k_ => w.heap.size ≤ k_) (Kd.R_bound ho) (fun k_ hk => hk.2.1)) HS.out); clear HB HY ho hg hat; have HB := Aside0.mk hb; clear hb; obtain ⟨As, cs, es⟩ := Kd.R_slice HT.out; subst es)
     | ((with_reducible refine gate_builtin (b := .append) (xs := #[.tmp 27, .tmp 31]) rfl ?_); at_builtin; refine Kd.S_append (Kd.slice 3 (Kd.int .i64)) (w0 := w0) w0.heap.size rfl (.tmp 27) (.tmp 31) 38 29 (.slice none 0 0) 24 rfl Try.underlying38 info29 rfl (by decide) (by omega) (.slice Ao xo.length co) xo y1 [.slice As y1.length cs] (fun g => P g ∨ w.heap.size ≤ g) (fun g => w.heap.size ≤ g) rfl rfl ?aP ?aQ (fun k_ hk => .inr (Nat.le_trans HB.out.size hk)) ?aO (below_step HB0.out HB.out) (Nat.le_trans HS.out HB.out.size) ?aL ?_; (case aP => exact Kd.M_row HT.out); (case aQ => exact fun k_ hk => ⟨.inr hk, fun e_ => Nat.lt_irrefl _ (Nat.lt_of_lt_of_le ((Kd.S_R HO.out).1 k_ e_.symm).2 hk)⟩); (case aO => exact Kd.S_mono (Kd.S_below HO.out HB.out) (fun k_ hk => ⟨.inl hk.1, fun h_ => Nat.lt_irrefl _ (Nat.lt_of_lt_of_le hk.2 h_)⟩)); (case aL => have := LMo.out; omega); intro v10 w5 ho hb hg hat; have HK := Aside0.mk (Kept.of_grown hg (Kept.of_below HB.out P) (fun k_ hk => .inl ((Kd.S_R HO.out).1 k_ hk).1)); clear HB HO HT hg hat; have HO := Aside0.mk ho; have HB1 := Aside0.mk hb; clear ho hb))
   go_ret
   exact ⟨_, rfl, HO.out, HB1.out, HK.out⟩
 rw [if_neg c3] at H
 have c3b0 : (a1 == (l0.length : Int)) = false := beq_eq_false_iff_ne.mpr c3
 have c3b1 : decide (a1 = (l0.length : Int)) = false := decide_eq_false c3
 clear c3
 by_cases c4 : l2.length < 17592186044415
 rotate_left
 ·
  rw [if_neg c4] at H; exact absurd H (by simp)
 rw [if_pos c4] at H
 by_cases c5 : 0 ≤ a1
 rotate_left
 ·
  rw [if_neg c5] at H; exact absurd H (by simp)
 rw [if_pos c5] at H
 have c5b0 : decide (0 ≤ a1) = true := decide_eq_true c5
 clear c5
 by_cases c6 : a1 < (l0.length : Int)
 rotate_left
 ·
  rw [if_neg c6] at H; exact absurd H (by simp)
 rw [if_pos c6] at H
 have c6b0 : decide (a1 < (l0.length : Int)) = true := decide_eq_true c6
 clear c6
 obtain ⟨y281, hy281⟩ : ∃ y_ : List Int, y_ = [] := ⟨_, rfl⟩
 have Ny281 := Aside0.mk hy281
 obtain ⟨y284, hy284⟩ : ∃ y_ : List Int, y_ = y281 ++ l2 := ⟨_, rfl⟩
 have Ny284 := Aside0.mk hy284
 obtain ⟨y288, hy288⟩ : ∃ y_ : List Int, y_ = [(rd_T50 l0 a1).f0] := ⟨_, rfl⟩
 have Ny288 := Aside0.mk hy288
 obtain ⟨y291, hy291⟩ : ∃ y_ : List Int, y_ = y284 ++ y288 := ⟨_, rfl⟩
 have Ny291 := Aside0.mk hy291
 have LMc4 : Aside0 (y281.length + l2.length < 17592186044416) := ⟨by rw [hy281]; simp; omega⟩
 have LMc7 : Aside0 (y284.length + y288.length < 17592186044416) := ⟨by rw [hy288, hy284, hy281]; simp; omega⟩
 rw [show l2 ++ [(rd_T50 l0 a1).f0] = y291 by rw [hy291, hy284, hy281, hy288]; rfl] at H
 clear hy281 hy284 hy288 hy291 c4
 replace H := Option.bind_eq_some_iff.mp H
 obtain ⟨t, A1, H⟩ := H
 have B1 := Aside0.mk A1
 clear A1
 have H' := Aside0.mk H
 clear H
 go_enter Try.func98, Try.ntmps98
 try go_wp2
 have n0_ := Aside0.mk (below_drew1 HB.out)
 clear HB
 have HB := n0_
 clear n0_
 have p287 : 0 ≤ (a1 : Int) := of_decide_eq_true (by first | (with_reducible assumption) | assumption)
 have q287 : a1 < (l0.length : Int) := of_decide_eq_true (by first | (with_reducible assumption) | assumption)
 obtain ⟨ad287, e287, hx287_0, hx287_1, hx287_2, hx287_3⟩ := at_T50 HR0.out a1 p287 q287
 have hw287_3 := hx287_3
 have hw287_2 := hx287_2
 have hw287_1 := hx287_1
 have hw287_0 := hx287_0
 cases e287
 replace hx287_0 := (HB.out.cell (World.block_lt_of_cell? w _ hx287_0)).trans hx287_0
 replace hx287_1 := (HB.out.cell (World.block_lt_of_cell? w _ hx287_1)).trans hx287_1
 replace hx287_2 := (HB.out.cell (World.block_lt_of_cell? w _ hx287_2)).trans hx287_2
 replace hx287_3 := (HB.out.cell (World.block_lt_of_cell? w _ hx287_3)).trans hx287_3
 replace p287 := eq_true p287
 replace q287 := eq_true q287
 refine start_ (n := 11) (S := fun w' => w'.cell? (ad287.add ((a1).toNat * 4)) = some (.int .i64 ((rd_T50 l0 a1).f0)) ∧ w'.cell? ⟨(ad287.add ((a1).toNat * 4)).block, (ad287.add ((a1).toNat * 4)).off + 1, none⟩ = some (.int .i64 ((rd_T50 l0 a1).f1)) ∧ w'.cell? ⟨(ad287.add ((a1).toNat * 4)).block, (ad287.add ((a1).toNat * 4)).off + 2, none⟩ = some (.int .i64 ((rd_T50 l0 a1).f2)) ∧ w'.cell? ⟨(ad287.add ((a1).toNat * 4)).block, (ad287.add ((a1).toNat * 4)).off + 3, none⟩ = some (.int .i64 ((rd_T50 l0 a1).f3))) (ds := []) (bs 11 0) (by kernel_rfl) rfl (by kernel_rfl) ⟨((HB.out.cell (World.block_lt_of_cell? w _ hw287_0)).trans hw287_0), ((HB.out.cell (World.block_lt_of_cell? w _ hw287_1)).trans hw287_1), ((HB.out.cell (World.block_lt_of_cell? w _ hw287_2)).trans hw287_2), ((HB.out.cell (World.block_lt_of_cell? w _ hw287_3)).trans hw287_3)⟩ (fun hHeld => ?_); refine with_tabW spec_l6Search.tab5 spec_l6Search.bits5 (fun HT_ HW_ => ?_)
 generalize w.drew = w8 at HB hx287_0 hx287_1 hx287_2 hx287_3 hHeld ⊢
 refine pu 1 35 (bs 11 2) HT_ (h := ?_)
 refine pu 3 37 (bs 11 10) HT_ (h := ?_)
 refine pu 4 38 (bs 11 26) HT_ (h := ?_)
 refine pu 5 39 (bs 11 58) HT_ (h := ?_)
 refine pu 6 40 (bs 11 122) HT_ (h := ?_)
 refine tk 7 41 (bs 11 250) HT_ HW_ hHeld (hy := fun w' ⟨s0, s1, s2, s3⟩ => by go_simp; with_reducible rfl) (h := ?_)
 refine join_ (σ := Value × Value × Value) 2 (bs 11 511) (fun s_ => [(34, s_.1), (36, s_.2.1), (42, s_.2.2)]) (fun s_ w' => (w'.cell? (ad287.add ((a1).toNat * 4)) = some (.int .i64 ((rd_T50 l0 a1).f0)) ∧ w'.cell? ⟨(ad287.add ((a1).toNat * 4)).block, (ad287.add ((a1).toNat * 4)).off + 1, none⟩ = some (.int .i64 ((rd_T50 l0 a1).f1)) ∧ w'.cell? ⟨(ad287.add ((a1).toNat * 4)).block, (ad287.add ((a1).toNat * 4)).off + 2, none⟩ = some (.int .i64 ((rd_T50 l0 a1).f2)) ∧ w'.cell? ⟨(ad287.add ((a1).toNat * 4)).block, (ad287.add ((a1).toNat * 4)).off + 3, none⟩ = some (.int .i64 ((rd_T50 l0 a1).f3))) ∧ (Kd.R (Kd.int .i64) 3 w' w.heap.size (fun k_ => some k_ ≠ (s_.2.2 : Value).ownBlock) s_.2.1 y284) ∧ (Kd.R (Kd.int .i64) 3 w' w.heap.size (fun k_ => some k_ ≠ (s_.2.1 : Value).ownBlock) s_.2.2 y288) ∧ (Below w.heap.size w w')) ?_ ?_
 rotate_left
 ·
  intro hCont
  refine two_ (i := 0) (j := 8) (Ni := some 34) (Nj := some 42) (bs 11 251) (bs 11 506) rfl rfl rfl rfl (two_of HT_.out (by kernel_rfl)) (by decide) (by decide) (fun K hK => ?_) (fun K hK => ?_)
  ·
   skip
   refine Kd.R_lit_step (Kd.int .i64) _ 3 ?hg (N := 34) ?hd (xs := ([] : List Int)) (inner := []) (ok := fun _ => True) (okp := fun _ => True) ?hr ?hp (fun _ hk => hk) trivial (Below.refl _ _) (Nat.le_refl _) (by simp) ?_; (case hd => rfl); (case hg => rfl); (case hr => first | (go_simp; done) | (go_simp; rfl)); (case hp => exact (Reps.none _ _))
   intro v282 w9 ho10 hb hg_ hnew_
   clear hg_ hnew_
   (first | rw [← Ny281.out] at ho10 | (simp only [Int.reduceToNat] at ho10; rw [← Ny281.out] at ho10))
   have n0_ := Aside0.mk (Kd.R_lower ho10 (below_size (by repeat (first | (with_reducible first | exact HB.out | apply below_alloc | apply pw_below_drewN | apply below_drew1) | exact HB.out))))
   have n1_ := Aside0.mk (below_step (by repeat (first | (with_reducible first | exact HB.out | apply below_alloc | apply pw_below_drewN | apply below_drew1) | exact HB.out)) hb)
   clear HB
   have HO283 := n0_
   have HB := n1_
   clear n0_ n1_
   clear hb ho10
   refine hK.out _ _ ⟨((HB.out.cell (World.block_lt_of_cell? w _ hw287_0)).trans hw287_0), ((HB.out.cell (World.block_lt_of_cell? w _ hw287_1)).trans hw287_1), ((HB.out.cell (World.block_lt_of_cell? w _ hw287_2)).trans hw287_2), ((HB.out.cell (World.block_lt_of_cell? w _ hw287_3)).trans hw287_3)⟩ (fun hHeld => ?_)
   clear hK K
   refine nm 34 (h := ?_)
   refine two_ (i := 2) (j := 8) (Ni := some 36) (Nj := some 42) (bs 11 255) (bs 11 507) rfl rfl rfl rfl (two_of HT_.out (by kernel_rfl)) (by decide) (by decide) (fun K hK => ?_) (fun K hK => ?_)
   ·
    skip
    refine Kd.R_append_rows_step (Kd.int .i64) (w0 := w) w.heap.size (by rfl) (.tmp 34) (.tmp 35) 29 3 (.int .i64 0) 8 rfl Try.underlying29 info3 rfl (by decide) (by omega) v282 y281 l2 _ _ _ (fun _ => True) (fun _ => False) rfl rfl ?aO ?aR (fun _ _ h => h) (fun _ h => h.elim) ?aF ?aB ?aS ?aL ?_
    (case aR => repeat (first | exact (Kd.C_below HR2.out HB.out) | (with_reducible refine Kd.C_alloc ?_ _) | (with_reducible refine Kd.C_drewN ?_ _) | (with_reducible refine Kd.C_drew ?_)))
    (case aB => exact (by repeat (first | (with_reducible first | exact HB.out | apply below_alloc | apply pw_below_drewN | apply below_drew1) | exact HB.out)))
    (case aF => exact (fun _ _ => trivial))
    (case aO => exact (by (with_reducible repeat (first | apply Kd.R_alloc | apply Kd.R_drewN | apply Kd.R_drew)); exact HO283.out))
    (case aS => exact (below_size (by repeat (first | (with_reducible first | exact HB.out | apply below_alloc | apply pw_below_drewN | apply below_drew1) | exact HB.out))))
    (case aL => have := LMc4.out; omega)
    intro v285 w11 ho hb hg hat
    rw [← Ny284.out] at ho
    have n0_ := Aside0.mk (hb)
    have n1_ := Aside0.mk (ho)
    clear HB
    clear HO283
    have HB := n0_
    have HO286 := n1_
    clear n0_ n1_
    clear ho hb hg hat
    refine hK.out _ _ ⟨((HB.out.cell (World.block_lt_of_cell? w _ hw287_0)).trans hw287_0), ((HB.out.cell (World.block_lt_of_cell? w _ hw287_1)).trans hw287_1), ((HB.out.cell (World.block_lt_of_cell? w _ hw287_2)).trans hw287_2), ((HB.out.cell (World.block_lt_of_cell? w _ hw287_3)).trans hw287_3)⟩ (fun hHeld => ?_)
    clear hK K
    refine nm 36 (h := ?_)
    refine one_ (i := 8) (N := some 42) (bs 11 511) rfl rfl (one_of HT_.out (by kernel_rfl)) (by decide) (fun K hK => ?_)
    refine Kd.R_lit_step (Kd.int .i64) _ 3 ?hg (N := 42) ?hd (xs := ([(rd_T50 l0 a1).f0] : List Int)) (inner := [.int .i64 ((rd_T50 l0 a1).f0)]) (ok := fun _ => True) (okp := fun _ => True) ?hr ?hp (fun _ hk => hk) trivial (Below.refl _ _) (Nat.le_refl _) (by simp) ?_; (case hd => rfl); (case hg => rfl); (case hr => first | (go_simp; done) | (go_simp; rfl)); (case hp => exact (Reps.one (show Kd.M (Kd.int .i64) _ _ _ ((rd_T50 l0 a1).f0) [.int .i64 ((rd_T50 l0 a1).f0)] from rfl) (Reps.none _ _)))
    intro v289 w12 ho13 hb hg_ hnew_
    clear hg_ hnew_
    (first | rw [← Ny288.out] at ho13 | (simp only [Int.reduceToNat] at ho13; rw [← Ny288.out] at ho13))
    have n0_ := Aside0.mk (Kd.R_elder' (by (with_reducible repeat (first | apply Kd.R_alloc | apply Kd.R_drewN | apply Kd.R_drew)); exact HO286.out) (Kd.R_base ho13) hb)
    have n1_ := Aside0.mk (Kd.R_lower (Kd.R_new' ho13 (Kd.R_lt (by (with_reducible repeat (first | apply Kd.R_alloc | apply Kd.R_drewN | apply Kd.R_drew)); exact HO286.out))) (below_size (by repeat (first | (with_reducible first | exact HB.out | apply below_alloc | apply pw_below_drewN | apply below_drew1) | exact HB.out))))
    have n2_ := Aside0.mk (below_step (by repeat (first | (with_reducible first | exact HB.out | apply below_alloc | apply pw_below_drewN | apply below_drew1) | exact HB.out)) hb)
    clear HO286
    clear HB
    have HO286 := n0_
    have HO290 := n1_
    have HB := n2_
    clear n0_ n1_ n2_
    clear hb ho13
    refine hK.out _ _ ⟨((HB.out.cell (World.block_lt_of_cell? w _ hw287_0)).trans hw287_0), ((HB.out.cell (World.block_lt_of_cell? w _ hw287_1)).trans hw287_1), ((HB.out.cell (World.block_lt_of_cell? w _ hw287_2)).trans hw287_2), ((HB.out.cell (World.block_lt_of_cell? w _ hw287_3)).trans hw287_3)⟩ (fun hHeld => ?_)
    clear hK K
    refine nm 42 (h := ?_)
    exact norm_ (by simp only [putAll, Act.put, List.setIfInBounds_toArray, List.set_cons_zero, List.set_cons_succ]) (hCont (v282, v285, v289) _ ⟨hHeld, (by (with_reducible repeat (first | apply Kd.R_alloc | apply Kd.R_drewN | apply Kd.R_drew)); exact Kd.R_mono HO286.out (fun _ hk => hk.2)), (by (with_reducible repeat (first | apply Kd.R_alloc | apply Kd.R_drewN | apply Kd.R_drew)); exact Kd.R_mono HO290.out (fun _ hk => hk.2)), (by repeat (first | (with_reducible first | exact HB.out | apply below_alloc | apply pw_below_drewN | apply below_drew1) | exact HB.out))⟩)
   skip
   refine Kd.R_lit_step (Kd.int .i64) _ 3 ?hg (N := 42) ?hd (xs := ([(rd_T50 l0 a1).f0] : List Int)) (inner := [.int .i64 ((rd_T50 l0 a1).f0)]) (ok := fun _ => True) (okp := fun _ => True) ?hr ?hp (fun _ hk => hk) trivial (Below.refl _ _) (Nat.le_refl _) (by simp) ?_; (case hd => rfl); (case hg => rfl); (case hr => first | (go_simp; done) | (go_simp; rfl)); (case hp => exact (Reps.one (show Kd.M (Kd.int .i64) _ _ _ ((rd_T50 l0 a1).f0) [.int .i64 ((rd_T50 l0 a1).f0)] from rfl) (Reps.none _ _)))
   intro v289 w11 ho12 hb hg_ hnew_
   clear hg_ hnew_
   (first | rw [← Ny288.out] at ho12 | (simp only [Int.reduceToNat] at ho12; rw [← Ny288.out] at ho12))
   have n0_ := Aside0.mk (Kd.R_elder' (by (with_reducible repeat (first | apply Kd.R_alloc | apply Kd.R_drewN | apply Kd.R_drew)); exact HO283.out) (Kd.R_base ho12) hb)
   have n1_ := Aside0.mk (Kd.R_lower (Kd.R_new' ho12 (Kd.R_lt (by (with_reducible repeat (first | apply Kd.R_alloc | apply Kd.R_drewN | apply Kd.R_drew)); exact HO283.out))) (below_size (by repeat (first | (with_reducible first | exact HB.out | apply below_alloc | apply pw_below_drewN | apply below_drew1) | exact HB.out))))
   have n2_ := Aside0.mk (below_step (by repeat (first | (with_reducible first | exact HB.out | apply below_alloc | apply pw_below_drewN | apply below_drew1) | exact HB.out)) hb)
   clear HO283
   clear HB
   have HO283 := n0_
   have HO290 := n1_
   have HB := n2_
   clear n0_ n1_ n2_
   clear hb ho12
   refine hK.out _ _ ⟨((HB.out.cell (World.block_lt_of_cell? w _ hw287_0)).trans hw287_0), ((HB.out.cell (World.block_lt_of_cell? w _ hw287_1)).trans hw287_1), ((HB.out.cell (World.block_lt_of_cell? w _ hw287_2)).trans hw287_2), ((HB.out.cell (World.block_lt_of_cell? w _ hw287_3)).trans hw287_3)⟩ (fun hHeld => ?_)
   clear hK K
   refine nm 42 (h := ?_)
   refine one_ (i := 2) (N := some 36) (bs 11 511) rfl rfl (one_of HT_.out (by kernel_rfl)) (by decide) (fun K hK => ?_)
   refine Kd.R_append_rows_step (Kd.int .i64) (w0 := w) w.heap.size (by rfl) (.tmp 34) (.tmp 35) 29 3 (.int .i64 0) 8 rfl Try.underlying29 info3 rfl (by decide) (by omega) v282 y281 l2 _ _ _ (fun k_ => some k_ ≠ (v289 : Value).ownBlock) (fun _ => False) rfl rfl ?aO ?aR (fun _ _ h => h) (fun _ h => h.elim) ?aF ?aB ?aS ?aL ?_
   (case aR => repeat (first | exact (Kd.C_below HR2.out HB.out) | (with_reducible refine Kd.C_alloc ?_ _) | (with_reducible refine Kd.C_drewN ?_ _) | (with_reducible refine Kd.C_drew ?_)))
   (case aB => exact (by repeat (first | (with_reducible first | exact HB.out | apply below_alloc | apply pw_below_drewN | apply below_drew1) | exact HB.out)))
   (case aF => exact (fun k_ hk => Kd.fresh' (Kd.R_lt (by (with_reducible repeat (first | apply Kd.R_alloc | apply Kd.R_drewN | apply Kd.R_drew)); exact HO290.out)) k_ hk))
   (case aO => exact (by (with_reducible repeat (first | apply Kd.R_alloc | apply Kd.R_drewN | apply Kd.R_drew)); exact Kd.R_mono HO283.out (fun _ hk => hk.2)))
   (case aS => exact (below_size (by repeat (first | (with_reducible first | exact HB.out | apply below_alloc | apply pw_below_drewN | apply below_drew1) | exact HB.out))))
   (case aL => have := LMc4.out; omega)
   intro v285 w13 ho hb hg hat
   rw [← Ny284.out] at ho
   have n0_ := Aside0.mk (Kd.R_after (ok := (fun _ => True)) (by (with_reducible repeat (first | apply Kd.R_alloc | apply Kd.R_drewN | apply Kd.R_drew)); exact HO290.out) hg hat)
   have n1_ := Aside0.mk (hb)
   have n2_ := Aside0.mk (ho)
   clear HO290
   clear HB
   clear HO283
   have HO290 := n0_
   have HB := n1_
   have HO286 := n2_
   clear n0_ n1_ n2_
   clear ho hb hg hat
   refine hK.out _ _ ⟨((HB.out.cell (World.block_lt_of_cell? w _ hw287_0)).trans hw287_0), ((HB.out.cell (World.block_lt_of_cell? w _ hw287_1)).trans hw287_1), ((HB.out.cell (World.block_lt_of_cell? w _ hw287_2)).trans hw287_2), ((HB.out.cell (World.block_lt_of_cell? w _ hw287_3)).trans hw287_3)⟩ (fun hHeld => ?_)
   clear hK K
   refine nm 36 (h := ?_)
   exact norm_ (by simp only [putAll, Act.put, List.setIfInBounds_toArray, List.set_cons_zero, List.set_cons_succ]) (hCont (v282, v285, v289) _ ⟨hHeld, (by (with_reducible repeat (first | apply Kd.R_alloc | apply Kd.R_drewN | apply Kd.R_drew)); exact HO286.out), (by (with_reducible repeat (first | apply Kd.R_alloc | apply Kd.R_drewN | apply Kd.R_drew)); exact Kd.R_mono HO290.out (fun _ hk => hk.2)), (by repeat (first | (with_reducible first | exact HB.out | apply below_alloc | apply pw_below_drewN | apply below_drew1) | exact HB.out))⟩)
  skip
  refine Kd.R_lit_step (Kd.int .i64) _ 3 ?hg (N := 42) ?hd (xs := ([(rd_T50 l0 a1).f0] : List Int)) (inner := [.int .i64 ((rd_T50 l0 a1).f0)]) (ok := fun _ => True) (okp := fun _ => True) ?hr ?hp (fun _ hk => hk) trivial (Below.refl _ _) (Nat.le_refl _) (by simp) ?_; (case hd => rfl); (case hg => rfl); (case hr => first | (go_simp; done) | (go_simp; rfl)); (case hp => exact (Reps.one (show Kd.M (Kd.int .i64) _ _ _ ((rd_T50 l0 a1).f0) [.int .i64 ((rd_T50 l0 a1).f0)] from rfl) (Reps.none _ _)))
  intro v289 w9 ho10 hb hg_ hnew_
  clear hg_ hnew_
  (first | rw [← Ny288.out] at ho10 | (simp only [Int.reduceToNat] at ho10; rw [← Ny288.out] at ho10))
  have n0_ := Aside0.mk (Kd.R_lower ho10 (below_size (by repeat (first | (with_reducible first | exact HB.out | apply below_alloc | apply pw_below_drewN | apply below_drew1) | exact HB.out))))
  have n1_ := Aside0.mk (below_step (by repeat (first | (with_reducible first | exact HB.out | apply below_alloc | apply pw_below_drewN | apply below_drew1) | exact HB.out)) hb)
  clear HB
  have HO290 := n0_
  have HB := n1_
  clear n0_ n1_
  clear hb ho10
  refine hK.out _ _ ⟨((HB.out.cell (World.block_lt_of_cell? w _ hw287_0)).trans hw287_0), ((HB.out.cell (World.block_lt_of_cell? w _ hw287_1)).trans hw287_1), ((HB.out.cell (World.block_lt_of_cell? w _ hw287_2)).trans hw287_2), ((HB.out.cell (World.block_lt_of_cell? w _ hw287_3)).trans hw287_3)⟩ (fun hHeld => ?_)
  clear hK K
  refine nm 42 (h := ?_)
  refine one_ (i := 0) (N := some 34) (bs 11 507) rfl rfl (one_of HT_.out (by kernel_rfl)) (by decide) (fun K hK => ?_)
  refine Kd.R_lit_step (Kd.int .i64) _ 3 ?hg (N := 34) ?hd (xs := ([] : List Int)) (inner := []) (ok := fun _ => True) (okp := fun _ => True) ?hr ?hp (fun _ hk => hk) trivial (Below.refl _ _) (Nat.le_refl _) (by simp) ?_; (case hd => rfl); (case hg => rfl); (case hr => first | (go_simp; done) | (go_simp; rfl)); (case hp => exact (Reps.none _ _))
  intro v282 w11 ho12 hb hg_ hnew_
  clear hg_ hnew_
  (first | rw [← Ny281.out] at ho12 | (simp only [Int.reduceToNat] at ho12; rw [← Ny281.out] at ho12))
  have n0_ := Aside0.mk (Kd.R_elder' (by (with_reducible repeat (first | apply Kd.R_alloc | apply Kd.R_drewN | apply Kd.R_drew)); exact HO290.out) (Kd.R_base ho12) hb)
  have n1_ := Aside0.mk (Kd.R_lower (Kd.R_new' ho12 (Kd.R_lt (by (with_reducible repeat (first | apply Kd.R_alloc | apply Kd.R_drewN | apply Kd.R_drew)); exact HO290.out))) (below_size (by repeat (first | (with_reducible first | exact HB.out | apply below_alloc | apply pw_below_drewN | apply below_drew1) | exact HB.out))))
  have n2_ := Aside0.mk (below_step (by repeat (first | (with_reducible first | exact HB.out | apply below_alloc | apply pw_below_drewN | apply below_drew1) | exact HB.out)) hb)
  clear HO290
  clear HB
  have HO290 := n0_
  have HO283 := n1_
  have HB := n2_
  clear n0_ n1_ n2_
  clear hb ho12
  refine hK.out _ _ ⟨((HB.out.cell (World.block_lt_of_cell? w _ hw287_0)).trans hw287_0), ((HB.out.cell (World.block_lt_of_cell? w _ hw287_1)).trans hw287_1), ((HB.out.cell (World.block_lt_of_cell? w _ hw287_2)).trans hw287_2), ((HB.out.cell (World.block_lt_of_cell? w _ hw287_3)).trans hw287_3)⟩ (fun hHeld => ?_)
  clear hK K
  refine nm 34 (h := ?_)
  refine one_ (i := 2) (N := some 36) (bs 11 511) rfl rfl (one_of HT_.out (by kernel_rfl)) (by decide) (fun K hK => ?_)
  refine Kd.R_append_rows_step (Kd.int .i64) (w0 := w) w.heap.size (by rfl) (.tmp 34) (.tmp 35) 29 3 (.int .i64 0) 8 rfl Try.underlying29 info3 rfl (by decide) (by omega) v282 y281 l2 _ _ _ (fun k_ => some k_ ≠ (v289 : Value).ownBlock) (fun _ => False) rfl rfl ?aO ?aR (fun _ _ h => h) (fun _ h => h.elim) ?aF ?aB ?aS ?aL ?_
  (case aR => repeat (first | exact (Kd.C_below HR2.out HB.out) | (with_reducible refine Kd.C_alloc ?_ _) | (with_reducible refine Kd.C_drewN ?_ _) | (with_reducible refine Kd.C_drew ?_)))
  (case aB => exact (by repeat (first | (with_reducible first | exact HB.out | apply below_alloc | apply pw_below_drewN | apply below_drew1) | exact HB.out)))
  (case aF => exact (fun k_ hk => Kd.fresh' (Kd.R_lt (by (with_reducible repeat (first | apply Kd.R_alloc | apply Kd.R_drewN | apply Kd.R_drew)); exact HO290.out)) k_ hk))
  (case aO => exact (by (with_reducible repeat (first | apply Kd.R_alloc | apply Kd.R_drewN | apply Kd.R_drew)); exact Kd.R_mono HO283.out (fun _ hk => hk.2)))
  (case aS => exact (below_size (by repeat (first | (with_reducible first | exact HB.out | apply below_alloc | apply pw_below_drewN | apply below_drew1) | exact HB.out))))
  (case aL => have := LMc4.out; omega)
  intro v285 w13 ho hb hg hat
  rw [← Ny284.out] at ho
  have n0_ := Aside0.mk (Kd.R_after (ok := (fun _ => True)) (by (with_reducible repeat (first | apply Kd.R_alloc | apply Kd.R_drewN | apply Kd.R_drew)); exact HO290.out) hg hat)
  have n1_ := Aside0.mk (hb)
  have n2_ := Aside0.mk (ho)
  clear HO290
  clear HB
  clear HO283
  have HO290 := n0_
  have HB := n1_
  have HO286 := n2_
  clear n0_ n1_ n2_
  clear ho hb hg hat
  refine hK.out _ _ ⟨((HB.out.cell (World.block_lt_of_cell? w _ hw287_0)).trans hw287_0), ((HB.out.cell (World.block_lt_of_cell? w _ hw287_1)).trans hw287_1), ((HB.out.cell (World.block_lt_of_cell? w _ hw287_2)).trans hw287_2), ((HB.out.cell (World.block_lt_of_cell? w _ hw287_3)).trans hw287_3)⟩ (fun hHeld => ?_)
  clear hK K
  refine nm 36 (h := ?_)
  exact norm_ (by simp only [putAll, Act.put, List.setIfInBounds_toArray, List.set_cons_zero, List.set_cons_succ]) (hCont (v282, v285, v289) _ ⟨hHeld, (by (with_reducible repeat (first | apply Kd.R_alloc | apply Kd.R_drewN | apply Kd.R_drew)); exact HO286.out), (by (with_reducible repeat (first | apply Kd.R_alloc | apply Kd.R_drewN | apply Kd.R_drew)); exact Kd.R_mono HO290.out (fun _ hk => hk.2)), (by repeat (first | (with_reducible first | exact HB.out | apply below_alloc | apply pw_below_drewN | apply below_drew1) | exact HB.out))⟩)
 rintro ⟨v282, v285, v289⟩ w14 ⟨hS_, h0_, h1_, h2_⟩
 have n0_ : Aside0 (Kd.R (Kd.int .i64) 3 w14 w.heap.size (fun k_ => some k_ ≠ (v289 : Value).ownBlock) v285 y284) := ⟨h0_⟩
 have n1_ : Aside0 (Kd.R (Kd.int .i64) 3 w14 w.heap.size (fun k_ => some k_ ≠ (v285 : Value).ownBlock) v289 y288) := ⟨h1_⟩
 have n2_ : Aside0 (Below w.heap.size w w14) := ⟨h2_⟩
 clear HB
 clear h0_ h1_ h2_
 have HO286 := n0_
 have HO290 := n1_
 have HB := n2_
 clear n0_ n1_ n2_
 have hHeld : w14.cell? (ad287.add ((a1).toNat * 4)) = some (.int .i64 ((rd_T50 l0 a1).f0)) ∧ w14.cell? ⟨(ad287.add ((a1).toNat * 4)).block, (ad287.add ((a1).toNat * 4)).off + 1, none⟩ = some (.int .i64 ((rd_T50 l0 a1).f1)) ∧ w14.cell? ⟨(ad287.add ((a1).toNat * 4)).block, (ad287.add ((a1).toNat * 4)).off + 2, none⟩ = some (.int .i64 ((rd_T50 l0 a1).f2)) ∧ w14.cell? ⟨(ad287.add ((a1).toNat * 4)).block, (ad287.add ((a1).toNat * 4)).off + 3, none⟩ = some (.int .i64 ((rd_T50 l0 a1).f3)) := hS_
 obtain ⟨Ao16, co16, eo16⟩ := Kd.R_slice HO290.out
 (first | subst eo16 | (injection eo16 with f1_ f2_ f3_; have f4_ := f1_.symm; have f5_ := f3_.symm; clear f1_ f2_ f3_; subst f4_; subst f5_))
 refine norm_ (a' := ?_) ?_ ?_
 rotate_left
 ·
  simp only [putAll, Act.put, List.setIfInBounds_toArray, List.set_cons_zero, List.set_cons_succ]
  rfl
 refine one_ (i := 9) (N := some 43) (bs 11 1023) rfl rfl (one_of HT_.out (by kernel_rfl)) (by decide) (fun K hK => ?_)
 refine Kd.R_append_rows_step (Kd.int .i64) (w0 := w) w.heap.size (by rfl) (.tmp 36) (.tmp 42) 29 3 (.int .i64 0) 8 rfl Try.underlying29 info3 rfl (by decide) (by omega) v285 y284 y288 _ _ _ (fun k_ => some k_ ≠ (.slice Ao16 y288.length co16 : Value).ownBlock) (fun _ => False) rfl rfl ?aO ?aR (fun _ _ h => h) (fun _ h => h.elim) ?aF ?aB ?aS ?aL ?_
 (case aR => repeat (first | exact (Kd.R_reads' HO290.out).2.2 | (with_reducible refine Kd.C_alloc ?_ _) | (with_reducible refine Kd.C_drewN ?_ _) | (with_reducible refine Kd.C_drew ?_)))
 (case aB => exact (by repeat (first | (with_reducible first | exact HB.out | apply below_alloc | apply pw_below_drewN | apply below_drew1) | exact HB.out)))
 (case aF => exact (fun k_ hk => Kd.fresh' (Kd.R_lt (by (with_reducible repeat (first | apply Kd.R_alloc | apply Kd.R_drewN | apply Kd.R_drew)); exact HO290.out)) k_ hk))
 (case aO => exact (by (with_reducible repeat (first | apply Kd.R_alloc | apply Kd.R_drewN | apply Kd.R_drew)); exact HO286.out))
 (case aS => exact (below_size (by repeat (first | (with_reducible first | exact HB.out | apply below_alloc | apply pw_below_drewN | apply below_drew1) | exact HB.out))))
 (case aL => have := LMc7.out; omega)
 intro v292 w15 ho hb hg hat
 rw [← Ny291.out] at ho
 have n0_ := Aside0.mk (Kd.R_after (ok := (fun _ => True)) (by (with_reducible repeat (first | apply Kd.R_alloc | apply Kd.R_drewN | apply Kd.R_drew)); exact Kd.R_mono HO290.out (fun _ hk => ⟨trivial, hk⟩)) hg hat)
 have n1_ := Aside0.mk (hb)
 have n2_ := Aside0.mk (ho)
 clear HO290
 clear HB
 clear HO286
 have HO290 := n0_
 have HB := n1_
 have HO293 := n2_
 clear n0_ n1_ n2_
 clear ho hb hg hat
 refine hK.out _ _ ⟨((HB.out.cell (World.block_lt_of_cell? w _ hw287_0)).trans hw287_0), ((HB.out.cell (World.block_lt_of_cell? w _ hw287_1)).trans hw287_1), ((HB.out.cell (World.block_lt_of_cell? w _ hw287_2)).trans hw287_2), ((HB.out.cell (World.block_lt_of_cell? w _ hw287_3)).trans hw287_3)⟩ (fun hHeld => ?_)
 clear hK K
 refine nm 43 (h := ?_)
 refine pu 10 9 (bs 11 2047) HT_ (h := ?_)
 refine done_ (done_of HT_.out (by kernel_rfl)) ?_
 obtain ⟨Aw, cw, ew⟩ := Kd.R_slice HO293.out
 subst ew
 clear hHeld hw287_0 hw287_1 hw287_2 hw287_3 HO290
 cases t with
 | false =>
  have H := Aside0.mk (show spec_l6Search.f k l0 (wrap64 (a1 + 1)) l2 xo = some r by have h_ := H'.out; rw [if_neg (show ¬ (false = true) by decide)] at h_; exact h_)
  clear H'
  go_wp2_with (first
    | ((with_reducible refine gate_callee (f := 20) rfl ?_); refine goesL_ (some 46) rfl rfl Try.func20 (by kernel_rfl) rfl #[.slice (some ad287) l0.length c0, .slice Aw y291.length cw] rfl (by (try simp only [List.map_toArray, List.map_cons, List.map_nil]); first | done | rfl | (simp only [List.length_drop, List.length_take]; rfl)) ?_; (with_reducible refine (spec_IsTogether.calls k _ _ l0 _ _ y291 false _ ?side1 ?side2 ?side3 ?side4 B1.out).mono ?_); (case side1 => exact Kd.C_below HR0.out HB.out); (case side2 => exact HC0.out); (case side3 => exact (Kd.R_reads' HO293.out).2.2); (case side4 => exact (Kd.R_reads' HO293.out).2.1); rintro e w16 ⟨rfl, hb⟩; refine ⟨_, rfl, ?_⟩; have n0_ := Aside0.mk (Kd.R_below HO293.out hb); have n1_ := Aside0.mk (below_step HB.out hb); clear HO293 HB hb; have HO293 := n0_; have HB := n1_; clear n0_ n1_)
    | ((with_reducible refine gate_callee (f := 98) rfl ?_); refine goesL_ (some 58) rfl rfl Try.func98 (by kernel_rfl) rfl #[.slice (some ad287) l0.length c0, .int .i64 (wrap64 (a1 + 1)), .slice A2 l2.length c2, .slice Ao xo.length co] rfl (by (try simp only [List.map_toArray, List.map_cons, List.map_nil]); first | done | rfl | (simp only [List.length_drop, List.length_take]; rfl)) ?_; (with_reducible refine (IH.out (wrap64 (a1 + 1)) _ _ l2 (fun g => P g ∧ g < w.heap.size) _ xo r _ ?s1 ?s2 ?s3 ?s4 ?s5 H.out).mono ?_); (case s1 => exact below_step HB0.out HB.out); (case s2 => exact Kd.F_mono (Kd.F_below HF0.out HB.out) (fun g hg h2 => hg h2.1)); (case s3 => exact Kd.F_mono (Kd.F_below HF2.out HB.out) (fun g hg h2 => hg h2.1)); (case s4 => exact HC2.out); (case s5 => exact Kd.S_below HO.out HB.out); rintro e w17 ⟨v1, rfl, ho2, hb2, hk2⟩; refine ⟨_, rfl, ?_⟩; have HO2 := Aside0.mk ho2; have HB2 := Aside0.mk hb2; have HK2 := Aside0.mk hk2; clear ho2 hb2 hk2))
  go_ret
  exact ⟨_, rfl, Kd.S_mono HO2.out (fun g hg => hg.elim (fun h => .inl h.1) (fun h => .inr (Nat.le_trans HB.out.size h))), HB2.out, (Kept.of_below HB.out P).then_ HK2.out (fun g h => .inl h.1)⟩
 | true =>
  have h_ := H'.out
  rw [if_pos rfl] at h_
  replace h_ := Option.bind_eq_some_iff.mp h_
  obtain ⟨o1, A3, h_⟩ := h_
  have B3 := Aside0.mk A3
  have H := Aside0.mk h_
  clear h_ A3 H'
  go_wp2_with (first
    | ((with_reducible refine gate_callee (f := 20) rfl ?_); refine goesL_ (some 46) rfl rfl Try.func20 (by kernel_rfl) rfl #[.slice (some ad287) l0.length c0, .slice Aw y291.length cw] rfl (by (try simp only [List.map_toArray, List.map_cons, List.map_nil]); first | done | rfl | (simp only [List.length_drop, List.length_take]; rfl)) ?_; (with_reducible refine (spec_IsTogether.calls k _ _ l0 _ _ y291 true _ ?side1 ?side2 ?side3 ?side4 B1.out).mono ?_); (case side1 => exact Kd.C_below HR0.out HB.out); (case side2 => exact HC0.out); (case side3 => exact (Kd.R_reads' HO293.out).2.2); (case side4 => exact (Kd.R_reads' HO293.out).2.1); rintro e w16 ⟨rfl, hb⟩; refine ⟨_, rfl, ?_⟩; have n0_ := Aside0.mk (Kd.R_below HO293.out hb); have n1_ := Aside0.mk (below_step HB.out hb); clear HO293 HB hb; have HO293 := n0_; have HB := n1_; clear n0_ n1_)
    | ((with_reducible refine gate_callee (f := 98) rfl ?_); refine goesL_ (some 52) rfl rfl Try.func98 (by kernel_rfl) rfl #[.slice (some ad287) l0.length c0, .int .i64 (wrap64 (a1 + 1)), .slice Aw y291.length cw, .slice Ao xo.length co] rfl (by (try simp only [List.map_toArray, List.map_cons, List.map_nil]); first | done | rfl | (simp only [List.length_drop, List.length_take]; rfl)) ?_; (with_reducible refine (IH.out (wrap64 (a1 + 1)) _ _ y291 (fun g => P g ∧ g < w.heap.size) _ xo o1 _ ?s1 ?s2 ?s3 ?s4 ?s5 B3.out).mono ?_); (case s1 => exact below_step HB0.out HB.out); (case s2 => exact Kd.F_mono (Kd.F_below HF0.out HB.out) (fun g hg h2 => hg h2.1)); (case s3 => exact Kd.R_F (Kd.R_mono (Kd.R_bound HO293.out) (fun g hg h2 => Nat.lt_irrefl _ (Nat.lt_of_lt_of_le h2.2 hg.2.1)))); (case s4 => exact (Kd.R_reads' HO293.out).2.1); (case s5 => exact Kd.S_below HO.out HB.out); rintro e w17 ⟨v1, rfl, ho2, hb2, hk2⟩; refine ⟨_, rfl, ?_⟩; obtain ⟨A4, c4, e4⟩ := Kd.S_slice ho2; subst e4; have HO2 := Aside0.mk ho2; have HB2 := Aside0.mk hb2; have HK2 := Aside0.mk hk2; clear ho2 hb2 hk2)
    | ((with_reducible refine gate_callee (f := 98) rfl ?_); refine goesL_ (some 58) rfl rfl Try.func98 (by kernel_rfl) rfl #[.slice (some ad287) l0.length c0, .int .i64 (wrap64 (a1 + 1)), .slice A2 l2.length c2, .slice A4 o1.length c4] rfl (by (try simp only [List.map_toArray, List.map_cons, List.map_nil]); first | done | rfl | (simp only [List.length_drop, List.length_take]; rfl)) ?_; (with_reducible refine (IH.out (wrap64 (a1 + 1)) _ _ l2 (fun g => (P g ∧ g < w.heap.size) ∨ w16.heap.size ≤ g) _ o1 r _ ?s1 ?s2 ?s3 ?s4 ?s5 H.out).mono ?_); (case s1 => exact HB2.out); (case s2 => exact Kd.F_mono (Kd.F_kept (Kd.F_below (Kd.F_bound HF0.out) HB.out) HK2.out (fun g hg h2 => hg.1 h2.1)) (fun g hg h2 => h2.elim (fun h => hg.1 h.1) (fun h => Nat.lt_irrefl _ (Nat.lt_of_lt_of_le hg.2 (Nat.le_trans HB.out.size h))))); (case s3 => exact Kd.F_mono (Kd.F_kept (Kd.F_below (Kd.F_bound HF2.out) HB.out) HK2.out (fun g hg h2 => hg.1 h2.1)) (fun g hg h2 => h2.elim (fun h => hg.1 h.1) (fun h => Nat.lt_irrefl _ (Nat.lt_of_lt_of_le hg.2 (Nat.le_trans HB.out.size h))))); (case s4 => exact HC2.out); (case s5 => exact HO2.out); rintro e w18 ⟨v2, rfl, ho3, hb3, hk3⟩; refine ⟨_, rfl, ?_⟩; have HO3 := Aside0.mk ho3; have HB3 := Aside0.mk hb3; have HK3 := Aside0.mk hk3; clear ho3 hb3 hk3))
  go_ret
  exact ⟨_, rfl, Kd.S_mono HO3.out (fun g hg => hg.elim (fun h => h.elim (fun h => .inl h.1) (fun h => .inr (Nat.le_trans HB.out.size h))) (fun h => .inr (Nat.le_trans HB.out.size (Nat.le_trans HK2.out.1 h)))), HB3.out, ((Kept.of_below HB.out P).then_ HK2.out (fun g h => .inl h.1)).then_ HK3.out (fun g h => h.elim (fun h => .inl h.1) (fun h => .inr (Nat.le_trans HB.out.size h)))⟩
/-! ### spec_StagesOf: function 66 -/
def spec_StagesOf.f (k : Nat) (l0 : List S50) : Option (List (List Int)) := (spec_ArePaths.f k l0).bind fun t => if t = true then spec_l6Search.f k l0 0 [] [] else some []
theorem spec_StagesOf.mono : ∀ a0 k, LeO (spec_StagesOf.f k a0) (spec_StagesOf.f (k + 1) a0) := by
  intro a0 k
  unfold spec_StagesOf.f
  refine LeO.bind (spec_ArePaths.mono _ _) (fun _ => LeO.ite (spec_l6Search.mono _ _ _ _ _) (LeO.refl _))
set_option maxHeartbeats 8000000 in
set_option maxRecDepth 100000 in
theorem spec_StagesOf.calls (k : Nat) (A0 : Option Addr) (c0 : Nat) (l0 : List S50) (r : List (List Int)) (w : World) (hr0 : Kd.C k50 w A0 l0.length l0) (hc0 : l0.length ≤ c0) (h : spec_StagesOf.f k l0 = some r) :
    Calls Try.prog 66 #[.slice A0 l0.length c0] w fun e w' => ∃ v0_ : Value, e = .returned (v0_) ∧ Kd.S (Kd.slice 3 (Kd.int .i64)) 29 w' w.heap.size (fun _ => True) v0_ r ∧ Below w.heap.size w w' := by
 have HR0 := Aside0.mk hr0
 have HC0 := Aside0.mk hc0
 have HB := Aside0.mk (Below.refl w.heap.size w)
 have H := h
 clear hr0 hc0 h
 unfold spec_StagesOf.f at H
 replace H := Option.bind_eq_some_iff.mp H
 obtain ⟨t, A1, H⟩ := H
 have B1 := Aside0.mk A1
 clear A1
 obtain ⟨yo, hyo⟩ : ∃ y_ : List (List Int), y_ = [] := ⟨_, rfl⟩
 have Nyo := Aside0.mk hyo
 cases t with
 | false =>
  rw [if_neg (show ¬ (false = true) by decide), ← hyo] at H
  obtain rfl := Option.some.inj H
  clear hyo
  go_enter Try.func66, Try.ntmps66
  go_wp2_with (first
    | ((with_reducible refine gate_callee (f := 72) rfl ?_); refine goesL_ (some 4) rfl rfl Try.func72 (by kernel_rfl) rfl #[.slice A0 l0.length c0] rfl (by (try simp only [List.map_toArray, List.map_cons, List.map_nil]); first | done | rfl | (simp only [List.length_drop, List.length_take]; rfl)) ?_; (with_reducible refine (spec_ArePaths.calls k _ _ l0 false _ HR0.out HC0.out B1.out).mono ?_); rintro e w1 ⟨rfl, hb⟩; refine ⟨_, rfl, ?_⟩; have n1_ := Aside0.mk (below_step HB.out hb); clear HB hb; have HB := n1_; clear n1_)
    | ((with_reducible refine gate_dst (N := 6) rfl ?_); refine Kd.S_lit (Kd.slice 3 (Kd.int .i64)) _ 29 ?hg (N := 6) ?hd (xs := ([] : List (List Int))) (inner := []) (ok := fun _ => True) (okp := fun _ => True) ?hr ?hp (fun _ hk => hk) trivial (Below.refl _ _) (Nat.le_refl _) (by simp) ?_; (case hd => rfl); (case hg => rfl); (case hr => first | (go_simp; done) | (go_simp; rfl)); (case hp => exact (Reps.none _ _)); intro vo wa hoa hb hg_ hnew_; clear hg_ hnew_; rw [← Nyo.out] at hoa; have HO := Aside0.mk (Kd.S_lower hoa (below_size HB.out)); have n1_ := Aside0.mk (below_step HB.out hb); clear HB hoa hb; have HB := n1_; clear n1_))
  go_ret
  exact ⟨_, rfl, HO.out, HB.out⟩
 | true =>
  rw [if_pos rfl, ← hyo] at H
  obtain ⟨yi, hyi⟩ : ∃ y_ : List Int, y_ = [] := ⟨_, rfl⟩
  have Nyi := Aside0.mk hyi
  rw [← hyi] at H
  have H' := Aside0.mk H
  clear hyo hyi H
  have HF := Aside0.mk (Kd.C_F (show Kd.Heap k50 from Kd.heap_iso _ (Kd.heap_pair (Kd.heap_int _) (Kd.heap_pair (Kd.heap_int _) (Kd.heap_pair (Kd.heap_int _) (Kd.heap_int _))))) HR0.out)
  go_enter Try.func66, Try.ntmps66
  go_wp2_with (first
    | ((with_reducible refine gate_callee (f := 72) rfl ?_); refine goesL_ (some 4) rfl rfl Try.func72 (by kernel_rfl) rfl #[.slice A0 l0.length c0] rfl (by (try simp only [List.map_toArray, List.map_cons, List.map_nil]); first | done | rfl | (simp only [List.length_drop, List.length_take]; rfl)) ?_; (with_reducible refine (spec_ArePaths.calls k _ _ l0 true _ HR0.out HC0.out B1.out).mono ?_); rintro e w1 ⟨rfl, hb⟩; refine ⟨_, rfl, ?_⟩; have n1_ := Aside0.mk (below_step HB.out hb); clear HB hb; have HB := n1_; clear n1_)
    | ((with_reducible refine gate_dst (N := 8) rfl ?_); refine Kd.R_lit (Kd.int .i64) _ 3 ?hg (N := 8) ?hd (xs := ([] : List Int)) (inner := []) (ok := fun _ => True) (okp := fun _ => True) ?hr ?hp (fun _ hk => hk) trivial (Below.refl _ _) (Nat.le_refl _) (by simp) ?_; (case hd => rfl); (case hg => rfl); (case hr => first | (go_simp; done) | (go_simp; rfl)); (case hp => exact (Reps.none _ _)); intro vy w2 hoy hb hg_ hnew_; clear hg_ hnew_; rw [← Nyi.out] at hoy; obtain ⟨Ay, cy, ey⟩ := Kd.R_slice hoy; subst ey; have HY := Aside0.mk (Kd.R_bound hoy); have n1_ := Aside0.mk (below_step HB.out hb); clear HB hb hoy; have HB := n1_; have HS2 := Aside0.mk (below_size HB.out); clear n1_)
    | ((with_reducible refine gate_dst (N := 9) rfl ?_); refine Kd.S_lit (Kd.slice 3 (Kd.int .i64)) _ 29 ?hg (N := 9) ?hd (xs := ([] : List (List Int))) (inner := []) (ok := fun _ => True) (okp := fun _ => True) ?hr ?hp (fun _ hk => hk) trivial (Below.refl _ _) (Nat.le_refl _) (by simp) ?_; (case hd => rfl); (case hg => rfl); (case hr => first | (go_simp; done) | (go_simp; rfl)); (case hp => exact (Reps.none _ _)); intro vo w3 hoa hb hg_ hnew_; clear hg_ hnew_; rw [← Nyo.out] at hoa; obtain ⟨Ao, co, eo⟩ := Kd.S_slice hoa; subst eo; have HO := Aside0.mk (Kd.S_lower (Kd.S_mono (ok' := fun g => w2.heap.size ≤ g) (Kd.S_bound hoa) (fun _ hk => hk.2.1)) (below_size HB.out)); have n1_ := Aside0.mk (below_step HB.out hb); have n2_ := Aside0.mk (Kd.R_below HY.out hb); clear HB HY hoa hb; have HB := n1_; have HY := n2_; clear n1_ n2_)
    | ((with_reducible refine gate_callee (f := 98) rfl ?_); refine goesL_ (some 10) rfl rfl Try.func98 (by kernel_rfl) rfl #[.slice A0 l0.length c0, .int .i64 0, .slice Ay yi.length cy, .slice Ao yo.length co] rfl (by (try simp only [List.map_toArray, List.map_cons, List.map_nil]); first | done | rfl | (simp only [List.length_drop, List.length_take]; rfl)) ?_; (with_reducible refine (spec_l6Search.calls w A0 c0 l0 HC0.out k 0 _ _ yi (fun g => w2.heap.size ≤ g) _ yo r w3 HB.out ?s2 ?s3 ?s4 HO.out H'.out).mono ?_); (case s2 => exact Kd.F_mono (Kd.F_below HF.out HB.out) (fun g hg h2 => by have h3_ := HS2.out; omega)); (case s3 => exact Kd.R_F (Kd.R_mono HY.out (fun g hg h2 => Nat.lt_irrefl _ (Nat.lt_of_lt_of_le hg.2.2.1 h2)))); (case s4 => exact (Kd.R_reads' HY.out).2.1); rintro e w4 ⟨v2, rfl, ho3, hb3, hk3⟩; refine ⟨_, rfl, ?_⟩; have HO3 := Aside0.mk ho3; have HB3 := Aside0.mk hb3; clear ho3 hb3 hk3))
  go_ret
  exact ⟨_, rfl, Kd.S_mono HO3.out (fun _ _ => trivial), HB3.out⟩
/-! ### laws_FnExactStagesOf: function 14 -/
/-- The world without what lies behind its first n blocks. -/
def cutAt (w : World) (n : Nat) : World := { w with heap := w.heap.extract 0 n }
theorem cutAt_size (w : World) (n : Nat) (h : n ≤ w.heap.size) : (cutAt w n).heap.size = n := by
  show (w.heap.extract 0 n).size = n
  rw [Array.size_extract]; omega
theorem cutAt_below (w : World) (n : Nat) : Below n (cutAt w n) w := by
  refine ⟨rfl, rfl, rfl, ?_, fun k hk => ?_⟩
  · show (w.heap.extract 0 n).size ≤ _
    rw [Array.size_extract]; omega
  · show w.heap[k]? = (w.heap.extract 0 n)[k]?
    rw [Array.getElem?_extract]
    by_cases h : k < min n w.heap.size - 0
    · rw [if_pos h, Nat.zero_add]
    · rw [if_neg h, Array.getElem?_eq_none (by omega)]
theorem below_wrote {B N : Nat} {w W W' : World} {P : Nat → Prop} (h : Below B w W) (hb : Below N (cutAt W N) W') (hk : Kept W W' P) (hP : ∀ k, P k → B ≤ k) (hB : B ≤ W.heap.size) : Below B w W' :=
  ⟨hb.os.trans h.os, hb.tape.trans h.tape, hb.output.trans h.output, Nat.le_trans h.size hk.1, fun k hlt => (hk.2 k (Nat.lt_of_lt_of_le hlt hB) (fun hp => Nat.lt_irrefl _ (Nat.lt_of_lt_of_le hlt (hP k hp)))).trans (h.block k hlt)⟩
/-- The law's way: its functions answer alike, and nothing is shared. -/
def laws_FnExactStagesOf.Ok (k : Nat) (l0 : List S69) : Prop := ∃ sz, laws_szPathS.f l0 1048576 = some sz ∧ (sz < 0 ∨ 0 ≤ sz ∧ ∃ x Ws Wi kk m1 mm g2, laws_toPathS.f k l0 = some x ∧ spec_StagesOf.f k x = some Ws ∧ impl_StagesOf.f k x = some Wi ∧ laws_eqIntSS.f k Wi Ws = some true ∧ laws_eqPathS.f k x x = some true ∧
  laws_markPathS.f k x 1 = some (kk, m1) ∧ 0 ≤ kk ∧ laws_markIntSS.f k Wi 1 = some (mm, g2) ∧ 0 ≤ mm ∧ laws_heldIntSS.f k g2 1 = some mm)
set_option maxHeartbeats 16000000 in
set_option maxRecDepth 100000 in
theorem laws_FnExactStagesOf.calls (k : Nat) (A0 : Option Addr) (c0 : Nat) (l0 : List (S69)) (r : Bool) (w : World) (hr0 : Kd.C k69 w A0 l0.length l0) (hc0 : l0.length ≤ c0) (h : r = true ∧ laws_FnExactStagesOf.Ok k l0) :
    Calls Try.prog 14 #[.slice A0 l0.length c0] w fun e w' => e = .returned (.bool r) ∧ Below w.heap.size w w' := by
 obtain ⟨rfl, sz, E1, hs⟩ := h
 have HR0 := Aside0.mk hr0
 have HC0 := Aside0.mk hc0
 have HB := Aside0.mk (Below.refl w.heap.size w)
 replace E1 := Aside0.mk E1
 clear hr0 hc0
 rcases hs with hs | ⟨hs, x, Ws, Wi, kk, m1, mm, g2, E2, E3, E4, E5, E6, E7, hkk, E8, hmm, E9⟩
 ·
  have b1 : decide (sz < 0) = true := decide_eq_true hs
  clear hs
  go_enter Try.func14, Try.ntmps14
  go_wp2_with (first | ((with_reducible refine gate_callee (f := 15) rfl ?_); refine goesL_ (some 13) rfl rfl Try.func15 (by kernel_rfl) rfl #[.slice A0 l0.length c0, .int .i64 1048576] rfl (by (try simp only [List.map_toArray, List.map_cons, List.map_nil]); first | done | rfl | (simp only [List.length_drop, List.length_take]; rfl)) ?_; (with_reducible refine (laws_szPathS.calls _ _ l0 1048576 sz _ ?side1 ?side2 E1.out).mono ?_); (case side1 => exact Kd.C_below HR0.out HB.out); (case side2 => exact HC0.out); rintro e w1 ⟨rfl, hd_⟩; refine ⟨_, rfl, ?_⟩; have hb := Drawn0.below hd_; clear hd_; have m_ := Aside0.mk (below_step HB.out hb); clear HB ; have HB := m_; clear m_ ; clear hb))
  go_ret
  exact ⟨rfl, HB.out⟩
 have b1 : decide (sz < 0) = false := decide_eq_false (by omega)
 have b2 : decide (kk < 0) = false := decide_eq_false (by omega)
 have b3 : decide (mm < 0) = false := decide_eq_false (by omega)
 clear hs hkk hmm
 replace E2 := Aside0.mk E2
 replace E3 := Aside0.mk E3
 replace E4 := Aside0.mk E4
 replace E5 := Aside0.mk E5
 replace E6 := Aside0.mk E6
 replace E7 := Aside0.mk E7
 replace E8 := Aside0.mk E8
 replace E9 := Aside0.mk E9
 go_enter Try.func14, Try.ntmps14
 go_wp2_with (first
   | ((with_reducible refine gate_callee (f := 15) rfl ?_); refine goesL_ (some 13) rfl rfl Try.func15 (by kernel_rfl) rfl #[.slice A0 l0.length c0, .int .i64 1048576] rfl (by (try simp only [List.map_toArray, List.map_cons, List.map_nil]); first | done | rfl | (simp only [List.length_drop, List.length_take]; rfl)) ?_; (with_reducible refine (laws_szPathS.calls _ _ l0 1048576 sz _ ?side1 ?side2 E1.out).mono ?_); (case side1 => exact Kd.C_below HR0.out HB.out); (case side2 => exact HC0.out); rintro e w1 ⟨rfl, hd_⟩; refine ⟨_, rfl, ?_⟩; have hb := Drawn0.below hd_; clear hd_; have m_ := Aside0.mk (below_step HB.out hb); clear HB ; have HB := m_; clear m_ ; clear hb)
   | ((with_reducible refine gate_callee (f := 17) rfl ?_); refine goesL_ (some 17) rfl rfl Try.func17 (by kernel_rfl) rfl #[.slice A0 l0.length c0] rfl (by (try simp only [List.map_toArray, List.map_cons, List.map_nil]); first | done | rfl | (simp only [List.length_drop, List.length_take]; rfl)) ?_; (with_reducible refine (laws_toPathS.calls k _ _ l0 x w1 ?side1 ?side2 E2.out).mono ?_); (case side1 => exact Kd.C_below HR0.out HB.out); (case side2 => exact HC0.out); rintro e w2 ⟨v1, rfl, ho0, hb⟩; refine ⟨_, rfl, ?_⟩; have H1 := Aside0.mk ho0; clear ho0; have m_ := Aside0.mk (below_step HB.out hb); clear HB ; have HB := m_; clear m_ ; clear hb; obtain ⟨A1, c1, e1⟩ := Kd.R_slice H1.out; subst e1)
   | ((with_reducible refine gate_callee (f := 66) rfl ?_); refine goesL_ (some 18) rfl rfl Try.func66 (by kernel_rfl) rfl #[.slice A1 x.length c1] rfl (by (try simp only [List.map_toArray, List.map_cons, List.map_nil]); first | done | rfl | (simp only [List.length_drop, List.length_take]; rfl)) ?_; (with_reducible refine (spec_StagesOf.calls k _ _ x Ws w2 ?side1 ?side2 E3.out).mono ?_); (case side1 => exact (Kd.R_reads' H1.out).2.2); (case side2 => exact (Kd.R_reads' H1.out).2.1); rintro e w3 ⟨vw, rfl, ho0, hb⟩; refine ⟨_, rfl, ?_⟩; have HW := Aside0.mk (Kd.S_lower (Kd.S_mono (ok' := fun k_ => k_ < w3.heap.size) (Kd.S_bound ho0) (fun k_ hk => hk.2.2.1)) (below_size HB.out)); clear ho0 H1; have m_ := Aside0.mk (below_step HB.out hb); clear HB ; have HB := m_; clear m_ ; clear hb; obtain ⟨Aw, cw, ew⟩ := Kd.S_slice HW.out; subst ew; have L3 := Aside0.mk (below_size HB.out))
   | ((with_reducible refine gate_callee (f := 17) rfl ?_); refine goesL_ (some 20) rfl rfl Try.func17 (by kernel_rfl) rfl #[.slice A0 l0.length c0] rfl (by (try simp only [List.map_toArray, List.map_cons, List.map_nil]); first | done | rfl | (simp only [List.length_drop, List.length_take]; rfl)) ?_; (with_reducible refine (laws_toPathS.calls k _ _ l0 x w3 ?side1 ?side2 E2.out).mono ?_); (case side1 => exact Kd.C_below HR0.out HB.out); (case side2 => exact HC0.out); rintro e w4 ⟨vx, rfl, ho0, hb⟩; refine ⟨_, rfl, ?_⟩; have HX := Aside0.mk (Kd.R_lower (Kd.R_mono (ok' := fun k_ => w3.heap.size ≤ k_ ∧ k_ < w4.heap.size) (Kd.R_bound ho0) (fun k_ hk => ⟨hk.2.1, hk.2.2.1⟩)) (below_size HB.out)); clear ho0; have L4 := Aside0.mk hb.size; have n0_ := Aside0.mk (Kd.S_below HW.out hb); have m_ := Aside0.mk (below_step HB.out hb); clear HB HW; have HB := m_; have HW := n0_; clear m_ n0_; clear hb; obtain ⟨Ax, cx, ex⟩ := Kd.R_slice HX.out; subst ex; have L40 := Aside0.mk (below_size HB.out))
   | ((with_reducible refine gate_callee (f := 62) rfl ?_); refine goesL_ (some 22) rfl rfl Try.func62 (by kernel_rfl) rfl #[.slice Ax x.length cx] rfl (by (try simp only [List.map_toArray, List.map_cons, List.map_nil]); first | done | rfl | (simp only [List.length_drop, List.length_take]; rfl)) ?_; (with_reducible refine (impl_StagesOf.calls k _ _ x Wi w4 ?side1 ?side2 E4.out).mono ?_); (case side1 => exact (Kd.R_reads' HX.out).2.2); (case side2 => exact (Kd.R_reads' HX.out).2.1); rintro e w5 ⟨vg, rfl, ho0, hb⟩; refine ⟨_, rfl, ?_⟩; have HG := Aside0.mk (Kd.S_mono (ok' := fun k_ => w4.heap.size ≤ k_ ∧ k_ < w5.heap.size) (Kd.S_bound ho0) (fun k_ hk => ⟨hk.2.1, hk.2.2.1⟩)); clear ho0; have n0_ := Aside0.mk (Kd.S_below HW.out hb); have n1_ := Aside0.mk (Kd.R_below HX.out hb); have m_ := Aside0.mk (below_step HB.out hb); clear HB HW HX; have HB := m_; have HW := n0_; have HX := n1_; clear m_ n0_ n1_; have HM5 := Aside0.mk hb.size; clear hb; obtain ⟨Ag, cg, eg⟩ := Kd.S_slice HG.out; subst eg)
   | ((with_reducible refine gate_callee (f := 35) rfl ?_); refine goesL_ (some 25) rfl rfl Try.func35 (by kernel_rfl) rfl #[.slice Ag Wi.length cg, .slice Aw Ws.length cw] rfl (by (try simp only [List.map_toArray, List.map_cons, List.map_nil]); first | done | rfl | (simp only [List.length_drop, List.length_take]; rfl)) ?_; (with_reducible refine (laws_eqIntSS.calls k _ _ Wi _ _ Ws true w5 ?side1 ?side2 ?side3 ?side4 E5.out).mono ?_); (case side1 => exact (Kd.S_reads' HG.out).2.2); (case side2 => exact (Kd.S_reads' HG.out).2.1); (case side3 => exact (Kd.S_reads' HW.out).2.2); (case side4 => exact (Kd.S_reads' HW.out).2.1); rintro e w6 ⟨rfl, hd_⟩; refine ⟨_, rfl, ?_⟩; have hb := Drawn0.below hd_; clear hd_; have n0_ := Aside0.mk (Kd.S_below HW.out hb); have n1_ := Aside0.mk (Kd.R_below HX.out hb); have n2_ := Aside0.mk (Kd.S_below HG.out hb); have m_ := Aside0.mk (below_step HB.out hb); clear HB HW HX HG; have HB := m_; have HW := n0_; have HX := n1_; have HG := n2_; clear m_ n0_ n1_ n2_; have HM6 := Aside0.mk (Nat.le_trans HM5.out hb.size); clear HM5 hb)
   | ((with_reducible refine gate_callee (f := 17) rfl ?_); refine goesL_ (some 29) rfl rfl Try.func17 (by kernel_rfl) rfl #[.slice A0 l0.length c0] rfl (by (try simp only [List.map_toArray, List.map_cons, List.map_nil]); first | done | rfl | (simp only [List.length_drop, List.length_take]; rfl)) ?_; (with_reducible refine (laws_toPathS.calls k _ _ l0 x w6 ?side1 ?side2 E2.out).mono ?_); (case side1 => exact Kd.C_below HR0.out HB.out); (case side2 => exact HC0.out); rintro e w7 ⟨v7, rfl, ho0, hb⟩; refine ⟨_, rfl, ?_⟩; have H1 := Aside0.mk ho0; clear ho0; have n0_ := Aside0.mk (Kd.S_below HW.out hb); have n1_ := Aside0.mk (Kd.R_below HX.out hb); have n2_ := Aside0.mk (Kd.S_below HG.out hb); have m_ := Aside0.mk (below_step HB.out hb); clear HB HW HX HG; have HB := m_; have HW := n0_; have HX := n1_; have HG := n2_; clear m_ n0_ n1_ n2_; have HM7 := Aside0.mk (Nat.le_trans HM6.out hb.size); clear HM6 hb; obtain ⟨A7, c7, e7⟩ := Kd.R_slice H1.out; subst e7)
   | ((with_reducible refine gate_callee (f := 19) rfl ?_); refine goesL_ (some 30) rfl rfl Try.func19 (by kernel_rfl) rfl #[.slice Ax x.length cx, .slice A7 x.length c7] rfl (by (try simp only [List.map_toArray, List.map_cons, List.map_nil]); first | done | rfl | (simp only [List.length_drop, List.length_take]; rfl)) ?_; (with_reducible refine (laws_eqPathS.calls k _ _ x _ _ x true w7 ?side1 ?side2 ?side3 ?side4 E6.out).mono ?_); (case side1 => exact (Kd.R_reads' HX.out).2.2); (case side2 => exact (Kd.R_reads' HX.out).2.1); (case side3 => exact (Kd.R_reads' H1.out).2.2); (case side4 => exact (Kd.R_reads' H1.out).2.1); rintro e w8 ⟨rfl, hb⟩; refine ⟨_, rfl, ?_⟩; clear H1; have n0_ := Aside0.mk (Kd.S_below HW.out hb); have n1_ := Aside0.mk (Kd.R_below HX.out hb); have n2_ := Aside0.mk (Kd.S_below HG.out hb); have m_ := Aside0.mk (below_step HB.out hb); clear HB HW HX HG; have HB := m_; have HW := n0_; have HX := n1_; have HG := n2_; clear m_ n0_ n1_ n2_; have HM8 := Aside0.mk (Nat.le_trans HM7.out hb.size); clear HM7 hb)
   | ((with_reducible refine gate_callee (f := 26) rfl ?_); refine goesL_ (some 34) rfl rfl Try.func26 (by kernel_rfl) rfl #[.slice Ax x.length cx, .int .i64 1] rfl (by (try simp only [List.map_toArray, List.map_cons, List.map_nil]); first | done | rfl | (simp only [List.length_drop, List.length_take]; rfl)) ?_; (with_reducible refine (laws_markPathS.calls k (fun k_ => w3.heap.size ≤ k_ ∧ k_ < w4.heap.size) _ x 1 kk m1 w w8 HB.out HX.out E7.out).mono ?_); rintro e w9 ⟨rfl, ho0, hb, hk⟩; refine ⟨_, rfl, ?_⟩; clear ho0; have HM := Aside0.mk (Nat.le_trans HM8.out hk.1); clear HM8; have n0_ := Aside0.mk (Kd.S_step HW.out (fun k_ h_ hlt => hk.2 k_ hlt (fun hp => Nat.lt_irrefl _ (Nat.lt_of_lt_of_le h_ hp.1)))); have n1_ := Aside0.mk (Kd.S_step HG.out (fun k_ h_ hlt => hk.2 k_ hlt (fun hp => Nat.lt_irrefl _ (Nat.lt_of_lt_of_le hp.2 h_.1)))); have n2_ := Aside0.mk hb; clear HW HG HB HX hb hk; have HW := n0_; have HG := n1_; have HB := n2_; clear n0_ n1_ n2_)
   | (go_at_call 35; (with_reducible refine (laws_eqIntSS.calls k _ _ Wi _ _ Ws true w9 ?side1 ?side2 ?side3 ?side4 E5.out).mono ?_); (case side1 => exact (Kd.S_reads' HG.out).2.2); (case side2 => exact (Kd.S_reads' HG.out).2.1); (case side3 => exact (Kd.S_reads' HW.out).2.2); (case side4 => exact (Kd.S_reads' HW.out).2.1); rintro e w10 ⟨rfl, hd_⟩; have hb := Drawn0.below hd_; clear hd_; have n0_ := Aside0.mk (Kd.S_below HW.out hb); have n1_ := Aside0.mk (Kd.S_below HG.out hb); have m_ := Aside0.mk (below_step HB.out hb); clear HB HW HG; have HB := m_; have HW := n0_; have HG := n1_; clear m_ n0_ n1_; have HN := Aside0.mk (Nat.le_trans HM.out hb.size); clear HM hb)
   | ((with_reducible refine gate_callee (f := 42) rfl ?_); refine goesL_ (some 45) rfl rfl Try.func42 (by kernel_rfl) rfl #[.slice Ag Wi.length cg, .int .i64 1] rfl (by (try simp only [List.map_toArray, List.map_cons, List.map_nil]); first | done | rfl | (simp only [List.length_drop, List.length_take]; rfl)) ?_; have hc_ : (cutAt w10 w4.heap.size).heap.size = w4.heap.size := cutAt_size _ _ (HN.out); (with_reducible refine (laws_markIntSS.calls k (fun k_ => w4.heap.size ≤ k_ ∧ k_ < w5.heap.size) _ Wi 1 mm g2 (cutAt w10 w4.heap.size) w10 ?side1 ?side2 E8.out).mono ?_); (case side1 => rw [hc_]; exact cutAt_below _ _); (case side2 => rw [hc_]; exact HG.out); rintro e w11 ⟨rfl, ho0, hb, hk⟩; refine ⟨_, rfl, ?_⟩; rw [hc_] at ho0; have n0_ := Aside0.mk (Kd.S_step HW.out (fun k_ h_ hlt => hk.2 k_ hlt (fun hp => Nat.lt_irrefl _ (Nat.lt_of_lt_of_le h_ (Nat.le_trans L4.out hp.1))))); have n1_ := Aside0.mk ho0; have n2_ := Aside0.mk (below_wrote HB.out (by rw [hc_] at hb; exact hb) hk (fun k_ hp => Nat.le_trans L40.out hp.1) (below_size HB.out)); clear HW HG HB hb hk ho0 hc_ HN; have HW := n0_; have HG := n1_; have HB := n2_; clear n0_ n1_ n2_; have hl_ := (Kd.S_reads' HG.out).1; rw [hl_]; rw [hl_] at HG; clear hl_)
   | ((with_reducible refine gate_callee (f := 43) rfl ?_); refine goesL_ (some 48) rfl rfl Try.func43 (by kernel_rfl) rfl #[.slice Ag g2.length cg, .int .i64 1] rfl (by (try simp only [List.map_toArray, List.map_cons, List.map_nil]); first | done | rfl | (simp only [List.length_drop, List.length_take]; rfl)) ?_; (with_reducible refine (laws_heldIntSS.calls k _ _ g2 1 mm w11 ?side1 ?side2 E9.out).mono ?_); (case side1 => exact (Kd.S_reads' HG.out).2.2); (case side2 => exact (Kd.S_reads' HG.out).2.1); rintro e w12 ⟨rfl, hd_⟩; refine ⟨_, rfl, ?_⟩; have hb := Drawn0.below hd_; clear hd_; have n0_ := Aside0.mk (Kd.S_below HW.out hb); have n1_ := Aside0.mk (Kd.S_below HG.out hb); have m_ := Aside0.mk (below_step HB.out hb); clear HB HW HG; have HB := m_; have HW := n0_; have HG := n1_; clear m_ n0_ n1_; clear hb)
   | ((with_reducible refine gate_callee (f := 17) rfl ?_); refine goesL_ (some 55) rfl rfl Try.func17 (by kernel_rfl) rfl #[.slice A0 l0.length c0] rfl (by (try simp only [List.map_toArray, List.map_cons, List.map_nil]); first | done | rfl | (simp only [List.length_drop, List.length_take]; rfl)) ?_; (with_reducible refine (laws_toPathS.calls k _ _ l0 x w12 ?side1 ?side2 E2.out).mono ?_); (case side1 => exact Kd.C_below HR0.out HB.out); (case side2 => exact HC0.out); rintro e w13 ⟨v13, rfl, ho0, hb⟩; refine ⟨_, rfl, ?_⟩; have H1 := Aside0.mk ho0; clear ho0; have n0_ := Aside0.mk (Kd.S_below HW.out hb); have n1_ := Aside0.mk (Kd.S_below HG.out hb); have m_ := Aside0.mk (below_step HB.out hb); clear HB HW HG; have HB := m_; have HW := n0_; have HG := n1_; clear m_ n0_ n1_; clear hb; obtain ⟨A13, c13, e13⟩ := Kd.R_slice H1.out; subst e13)
   | ((with_reducible refine gate_callee (f := 62) rfl ?_); refine goesL_ (some 56) rfl rfl Try.func62 (by kernel_rfl) rfl #[.slice A13 x.length c13] rfl (by (try simp only [List.map_toArray, List.map_cons, List.map_nil]); first | done | rfl | (simp only [List.length_drop, List.length_take]; rfl)) ?_; (with_reducible refine (impl_StagesOf.calls k _ _ x Wi w13 ?side1 ?side2 E4.out).mono ?_); (case side1 => exact (Kd.R_reads' H1.out).2.2); (case side2 => exact (Kd.R_reads' H1.out).2.1); rintro e w14 ⟨vh, rfl, ho0, hb⟩; refine ⟨_, rfl, ?_⟩; have H0 := Aside0.mk ho0; clear ho0 H1; have n0_ := Aside0.mk (Kd.S_below HW.out hb); have n1_ := Aside0.mk (Kd.S_below HG.out hb); have m_ := Aside0.mk (below_step HB.out hb); clear HB HW HG; have HB := m_; have HW := n0_; have HG := n1_; clear m_ n0_ n1_; clear hb; obtain ⟨Ah, ch, eh⟩ := Kd.S_slice H0.out; subst eh)
   | ((with_reducible refine gate_callee (f := 35) rfl ?_); refine goesL_ (some 59) rfl rfl Try.func35 (by kernel_rfl) rfl #[.slice Ah Wi.length ch, .slice Aw Ws.length cw] rfl (by (try simp only [List.map_toArray, List.map_cons, List.map_nil]); first | done | rfl | (simp only [List.length_drop, List.length_take]; rfl)) ?_; (with_reducible refine (laws_eqIntSS.calls k _ _ Wi _ _ Ws true w14 ?side1 ?side2 ?side3 ?side4 E5.out).mono ?_); (case side1 => exact (Kd.S_reads' H0.out).2.2); (case side2 => exact (Kd.S_reads' H0.out).2.1); (case side3 => exact (Kd.S_reads' HW.out).2.2); (case side4 => exact (Kd.S_reads' HW.out).2.1); rintro e w15 ⟨rfl, hd_⟩; refine ⟨_, rfl, ?_⟩; have hb := Drawn0.below hd_; clear hd_; clear H0; have n0_ := Aside0.mk (Kd.S_below HG.out hb); have m_ := Aside0.mk (below_step HB.out hb); clear HB HG; have HB := m_; have HG := n0_; clear m_ n0_; clear hb)
   | ((with_reducible refine gate_callee (f := 43) rfl ?_); refine goesL_ (some 63) rfl rfl Try.func43 (by kernel_rfl) rfl #[.slice Ag g2.length cg, .int .i64 1] rfl (by (try simp only [List.map_toArray, List.map_cons, List.map_nil]); first | done | rfl | (simp only [List.length_drop, List.length_take]; rfl)) ?_; (with_reducible refine (laws_heldIntSS.calls k _ _ g2 1 mm w15 ?side1 ?side2 E9.out).mono ?_); (case side1 => exact (Kd.S_reads' HG.out).2.2); (case side2 => exact (Kd.S_reads' HG.out).2.1); rintro e w16 ⟨rfl, hd_⟩; refine ⟨_, rfl, ?_⟩; have hb := Drawn0.below hd_; clear hd_; have m_ := Aside0.mk (below_step HB.out hb); clear HB ; have HB := m_; clear m_ ; clear hb))
 go_ret
 exact ⟨rfl, HB.out⟩
end Go.Proofs.Ytldmhlpfkclclaa.PFnExactStagesOf
