/- Our own text: the functions that FnExactCoverOf reaches, and what a call of each comes to (written by wip/drive.py). Each theorem states its own conditions. -/
import Derived.Test.YtldmhlpfkclclaaQFnExactCoverOfx0
import Derived.Test.YtldmhlpfkclclaaQFnExactCoverOfx1
import Derived.Test.YtldmhlpfkclclaaQFnExactCoverOfx2
import Derived.Test.YtldmhlpfkclclaaQFnExactCoverOfx8
import Derived.Test.YtldmhlpfkclclaaQFnExactCoverOfx14
namespace Go.Proofs.Ytldmhlpfkclclaa.PFnExactCoverOf
open Go.RowKit Go.Proofs.YtldmhlpfkclclaaW.PrintWords Go.Proofs.YtldmhlpfkclclaaW.PrintLast Go.Proofs.YtldmhlpfkclclaaW.PrintMore
attribute [local go_sem] max2_int min2_int max_two min_two max_three min_three max_four min_four   -- for this text's walks alone
set_option linter.unusedVariables false
set_option linter.unusedSimpArgs false

/-! ### laws_heldIntSS: function 43 -/
def laws_heldIntSS.l0 : Nat → List (List Int) → Int → Int → Option (Int)
  | 0, _, _, _ => none
  | k + 1, x0, x1, x5 => if x5 < (x0.length : Int) then (if 0 ≤ x5 then ((laws_heldIntS.f k (rd_L3 x0 x5) x1).bind fun t315 => (if t315 < 0 then (some (-1)) else (laws_heldIntSS.l0 k x0 t315 (wrap64 (x5 + 1))))) else (none)) else (some x1)
def laws_heldIntSS.f (k : Nat) (l0 : List (List Int)) (a1 : Int) : Option (Int) := laws_heldIntSS.l0 k l0 a1 0
theorem laws_heldIntSS.mono_l : ∀ k, (∀ y0 y1 y2, LeO (laws_heldIntSS.l0 k y0 y1 y2) (laws_heldIntSS.l0 (k + 1) y0 y1 y2))
  | 0 => fun _ _ _ r h => by simp [laws_heldIntSS.l0] at h
  | k + 1 => by
    have ih0 := laws_heldIntSS.mono_l k
    · intro y0 y1 y2
      unfold laws_heldIntSS.l0
      repeat' first
      | (with_reducible exact ih0 _ _ _)
      | (with_reducible exact laws_heldIntS.mono _ _ _)
      | (with_reducible exact LeO.refl _)
      | (with_reducible exact LeO.none _)
      | (with_reducible refine LeO.ite ?_ ?_)
      | (with_reducible refine LeO.bind ?_ (fun _ => ?_))
      | exact ih0 _ _ _
      | exact laws_heldIntS.mono _ _ _
      | exact LeO.none _
      | refine LeO.ite ?_ ?_
      | refine LeO.bind ?_ (fun _ => ?_)
theorem laws_heldIntSS.mono : ∀ a0 a1 k, LeO (laws_heldIntSS.f k a0 a1) (laws_heldIntSS.f (k + 1) a0 a1) := by
  intro a0 a1 k
  have ih0 := laws_heldIntSS.mono_l k
  unfold laws_heldIntSS.f
  repeat' first
      | (with_reducible exact ih0 _ _ _)
      | (with_reducible exact laws_heldIntS.mono _ _ _)
      | (with_reducible exact LeO.refl _)
      | (with_reducible exact LeO.none _)
      | (with_reducible refine LeO.ite ?_ ?_)
      | (with_reducible refine LeO.bind ?_ (fun _ => ?_))
      | exact ih0 _ _ _
      | exact laws_heldIntS.mono _ _ _
      | exact LeO.none _
      | refine LeO.ite ?_ ?_
      | refine LeO.bind ?_ (fun _ => ?_)
set_option maxHeartbeats 8000000 in
set_option maxRecDepth 100000 in
theorem laws_heldIntSS.calls (k : Nat) (A0 : Option Addr) (c0 : Nat) (l0 : List (List Int)) (a1 : Int) (r : Int) (w : World) (hr0 : Kd.C (Kd.slice 3 (Kd.int .i64)) w A0 l0.length l0) (hc0 : l0.length ≤ c0) (h : laws_heldIntSS.f k l0 a1 = some r) :
    Calls Try.prog 43 #[.slice A0 l0.length c0, .int .i64 a1] w fun e w' => e = .returned (.int .i64 r) ∧ Drawn0 w w' := by
 have HR0 := Aside0.mk hr0
 have HC0 := Aside0.mk hc0
 clear hr0 hc0
 have H : (laws_heldIntSS.l0 k l0 a1 0) = some r := h
 clear h
 have H' := Aside0.mk H
 clear H
 go_enter Try.func43, Try.ntmps43
 go_wp2
 go_loopg [1, 5] k (fun kq v1 v5 w' => ∃ (x1_1 : Int) (x5_1 : Int), v1 = .int .i64 x1_1 ∧ v5 = .int .i64 x5_1 ∧ Aside0 (laws_heldIntSS.l0 kq l0 x1_1 x5_1 = some r) ∧ Aside0 (kq ≤ k) ∧ Drawn0 w w')
 case atStart => exact ⟨(a1), (0), (by first | rfl | (simp; done) | (simp [*]; done)), (by first | rfl | (simp; done) | (simp [*]; done)), H', ⟨Nat.le_refl _⟩, by repeat (first | exact Drawn0.refl _ | apply Drawn0.step)⟩
 case round =>
  clear H'
  try clear p2
  obtain ⟨x1_1, x5_1, rfl, rfl, HA, HK1, ⟨m1, rfl⟩⟩ := hrel
  cases gk with
  | zero => exact absurd HA.out (by simp [laws_heldIntSS.l0])
  | succ k1 =>
   have H := HA.out
   clear HA
   simp only [laws_heldIntSS.l0] at H
   by_cases c3 : x5_1 < (l0.length : Int)
   rotate_left
   ·
    rw [if_neg c3] at H
    have c3b0 : decide (x5_1 < (l0.length : Int)) = false := decide_eq_false c3
    clear c3
    obtain rfl := Option.some.inj H
    go_wp2
    go_ret
    exact ⟨by first | rfl | (simp; done) | (simp [*]; done), by repeat (first | exact Drawn0.refl _ | apply Drawn0.step)⟩
   rw [if_pos c3] at H
   have c3b0 : decide (x5_1 < (l0.length : Int)) = true := decide_eq_true c3
   clear c3
   by_cases c4 : 0 ≤ x5_1
   rotate_left
   ·
    rw [if_neg c4] at H
    exact absurd H (by simp)
   rw [if_pos c4] at H
   have c4b0 : decide (0 ≤ x5_1) = true := decide_eq_true c4
   clear c4
   replace H := Option.bind_eq_some_iff.mp H
   obtain ⟨t315, A50, H⟩ := H
   try dsimp only at H
   have A5 := Aside0.mk A50
   clear A50
   by_cases c6 : t315 < 0
   ·
    rw [if_pos c6] at H
    have c6b0 : decide (t315 < 0) = true := decide_eq_true c6
    clear c6
    obtain rfl := Option.some.inj H
    have p314 : 0 ≤ (x5_1 : Int) := of_decide_eq_true (by first | (with_reducible assumption) | assumption)
    have q314 : x5_1 < (l0.length : Int) := of_decide_eq_true (by first | (with_reducible assumption) | assumption)
    obtain ⟨ad314, A314_0, c314_0, e314, hx314_0, hl314_0, hi314_0⟩ := at_L3 HR0.out x5_1 p314 q314
    cases e314
    have HR314_0 := Aside0.mk hi314_0
    have HC314_0 := Aside0.mk hl314_0
    clear hi314_0 hl314_0
    replace p314 := eq_true p314
    replace q314 := eq_true q314
    go_wp2_with (first | ((with_reducible refine gate_callee (f := 28) rfl ?_); refine goesL_ (some 17) rfl rfl Try.func28 (by kernel_rfl) rfl #[.slice A314_0 (rd_L3 l0 x5_1).length c314_0, .int .i64 x1_1] rfl (by (try simp only [List.map_toArray, List.map_cons, List.map_nil]); first | done | rfl | (simp only [List.length_drop, List.length_take]; rfl)) ?_; (with_reducible refine (laws_heldIntS.calls k1 _ _ (rd_L3 l0 x5_1) x1_1 t315 _ ?side1 ?side2 A5.out).mono ?_); (case side1 => repeat (first | exact HR314_0.out | (with_reducible refine Kd.C_alloc ?_ _) | (with_reducible refine Kd.C_drewN ?_ _) | (with_reducible refine Kd.C_drew ?_))); (case side2 => exact HC314_0.out); rintro e w' ⟨rfl, ⟨nd, rfl⟩⟩; refine ⟨_, rfl, ?_⟩))
    go_ret
    exact ⟨by first | rfl | (simp; done) | (simp [*]; done), by repeat (first | exact Drawn0.refl _ | apply Drawn0.step)⟩
   rw [if_neg c6] at H
   have c6b0 : decide (t315 < 0) = false := decide_eq_false c6
   clear c6
   have H' := Aside0.mk H
   clear H
   have p314 : 0 ≤ (x5_1 : Int) := of_decide_eq_true (by first | (with_reducible assumption) | assumption)
   have q314 : x5_1 < (l0.length : Int) := of_decide_eq_true (by first | (with_reducible assumption) | assumption)
   obtain ⟨ad314, A314_0, c314_0, e314, hx314_0, hl314_0, hi314_0⟩ := at_L3 HR0.out x5_1 p314 q314
   cases e314
   have HR314_0 := Aside0.mk hi314_0
   have HC314_0 := Aside0.mk hl314_0
   clear hi314_0 hl314_0
   replace p314 := eq_true p314
   replace q314 := eq_true q314
   go_wp2_with (first | ((with_reducible refine gate_callee (f := 28) rfl ?_); refine goesL_ (some 17) rfl rfl Try.func28 (by kernel_rfl) rfl #[.slice A314_0 (rd_L3 l0 x5_1).length c314_0, .int .i64 x1_1] rfl (by (try simp only [List.map_toArray, List.map_cons, List.map_nil]); first | done | rfl | (simp only [List.length_drop, List.length_take]; rfl)) ?_; (with_reducible refine (laws_heldIntS.calls k1 _ _ (rd_L3 l0 x5_1) x1_1 t315 _ ?side1 ?side2 A5.out).mono ?_); (case side1 => repeat (first | exact HR314_0.out | (with_reducible refine Kd.C_alloc ?_ _) | (with_reducible refine Kd.C_drewN ?_ _) | (with_reducible refine Kd.C_drew ?_))); (case side2 => exact HC314_0.out); rintro e w' ⟨rfl, ⟨nd, rfl⟩⟩; refine ⟨_, rfl, ?_⟩))
   go_roundg k1
   case measure => have := HK1.out; omega
   case rel => exact ⟨(t315), (wrap64 (x5_1 + 1)), (by first | rfl | (simp; done) | (simp [*]; done)), (by first | rfl | (simp; done) | (simp [*]; done)), H', ⟨by have := HK1.out; omega⟩, by repeat (first | exact Drawn0.refl _ | apply Drawn0.step)⟩
/-! ### laws_FnExactCoverOf: function 10 -/
/-- The world without what lies behind its first n blocks. -/
def cutAt (w : World) (n : Nat) : World := { w with heap := w.heap.extract 0 n }
theorem cutAt_size (w : World) (n : Nat) (h : n ≤ w.heap.size) : (cutAt w n).heap.size = n := by
  show (w.heap.extract 0 n).size = n
  rw [Array.size_extract]; omega
theorem cutAt_below (w : World) (n : Nat) : Below n (cutAt w n) w := by
  refine ⟨rfl, rfl, rfl, ?_, fun k hk => ?_⟩
  · show (w.heap.extract 0 n).size ≤ _
    rw [Array.size_extract]; omega
  · show w.heap[k]? = (w.heap.extract 0 n)[k]?
    rw [Array.getElem?_extract]
    by_cases h : k < min n w.heap.size - 0
    · rw [if_pos h, Nat.zero_add]
    · rw [if_neg h, Array.getElem?_eq_none (by omega)]
theorem below_wrote {B N : Nat} {w W W' : World} {P : Nat → Prop} (h : Below B w W) (hb : Below N (cutAt W N) W') (hk : Kept W W' P) (hP : ∀ k, P k → B ≤ k) (hB : B ≤ W.heap.size) : Below B w W' :=
  ⟨hb.os.trans h.os, hb.tape.trans h.tape, hb.output.trans h.output, Nat.le_trans h.size hk.1, fun k hlt => (hk.2 k (Nat.lt_of_lt_of_le hlt hB) (fun hp => Nat.lt_irrefl _ (Nat.lt_of_lt_of_le hlt (hP k hp)))).trans (h.block k hlt)⟩
/-- The law's way: its functions answer alike, and nothing is shared. -/
def laws_FnExactCoverOf.Ok (k : Nat) (l0 : List S69) : Prop := ∃ sz, laws_szPathS.f l0 1048576 = some sz ∧ (sz < 0 ∨ 0 ≤ sz ∧ ∃ x Ws Wi kk m1 mm g2, laws_toPathS.f k l0 = some x ∧ spec_CoverOf.f k x = some Ws ∧ impl_CoverOf.f k x = some Wi ∧ laws_eqIntSS.f k Wi Ws = some true ∧ laws_eqPathS.f k x x = some true ∧
  laws_markPathS.f k x 1 = some (kk, m1) ∧ 0 ≤ kk ∧ laws_markIntSS.f k Wi 1 = some (mm, g2) ∧ 0 ≤ mm ∧ laws_heldIntSS.f k g2 1 = some mm)
set_option maxHeartbeats 16000000 in
set_option maxRecDepth 100000 in
theorem laws_FnExactCoverOf.calls (k : Nat) (A0 : Option Addr) (c0 : Nat) (l0 : List (S69)) (r : Bool) (w : World) (hr0 : Kd.C k69 w A0 l0.length l0) (hc0 : l0.length ≤ c0) (h : r = true ∧ laws_FnExactCoverOf.Ok k l0) :
    Calls Try.prog 10 #[.slice A0 l0.length c0] w fun e w' => e = .returned (.bool r) ∧ Below w.heap.size w w' := by
 obtain ⟨rfl, sz, E1, hs⟩ := h
 have HR0 := Aside0.mk hr0
 have HC0 := Aside0.mk hc0
 have HB := Aside0.mk (Below.refl w.heap.size w)
 replace E1 := Aside0.mk E1
 clear hr0 hc0
 rcases hs with hs | ⟨hs, x, Ws, Wi, kk, m1, mm, g2, E2, E3, E4, E5, E6, E7, hkk, E8, hmm, E9⟩
 ·
  have b1 : decide (sz < 0) = true := decide_eq_true hs
  clear hs
  go_enter Try.func10, Try.ntmps10
  go_wp2_with (first | ((with_reducible refine gate_callee (f := 15) rfl ?_); refine goesL_ (some 13) rfl rfl Try.func15 (by kernel_rfl) rfl #[.slice A0 l0.length c0, .int .i64 1048576] rfl (by (try simp only [List.map_toArray, List.map_cons, List.map_nil]); first | done | rfl | (simp only [List.length_drop, List.length_take]; rfl)) ?_; (with_reducible refine (laws_szPathS.calls _ _ l0 1048576 sz _ ?side1 ?side2 E1.out).mono ?_); (case side1 => exact Kd.C_below HR0.out HB.out); (case side2 => exact HC0.out); rintro e w1 ⟨rfl, hd_⟩; refine ⟨_, rfl, ?_⟩; have hb := Drawn0.below hd_; clear hd_; have m_ := Aside0.mk (below_step HB.out hb); clear HB ; have HB := m_; clear m_ ; clear hb))
  go_ret
  exact ⟨rfl, HB.out⟩
 have b1 : decide (sz < 0) = false := decide_eq_false (by omega)
 have b2 : decide (kk < 0) = false := decide_eq_false (by omega)
 have b3 : decide (mm < 0) = false := decide_eq_false (by omega)
 clear hs hkk hmm
 replace E2 := Aside0.mk E2
 replace E3 := Aside0.mk E3
 replace E4 := Aside0.mk E4
 replace E5 := Aside0.mk E5
 replace E6 := Aside0.mk E6
 replace E7 := Aside0.mk E7
 replace E8 := Aside0.mk E8
 replace E9 := Aside0.mk E9
 go_enter Try.func10, Try.ntmps10
 go_wp2_with (first
   | ((with_reducible refine gate_callee (f := 15) rfl ?_); refine goesL_ (some 13) rfl rfl Try.func15 (by kernel_rfl) rfl #[.slice A0 l0.length c0, .int .i64 1048576] rfl (by (try simp only [List.map_toArray, List.map_cons, List.map_nil]); first | done | rfl | (simp only [List.length_drop, List.length_take]; rfl)) ?_; (with_reducible refine (laws_szPathS.calls _ _ l0 1048576 sz _ ?side1 ?side2 E1.out).mono ?_); (case side1 => exact Kd.C_below HR0.out HB.out); (case side2 => exact HC0.out); rintro e w1 ⟨rfl, hd_⟩; refine ⟨_, rfl, ?_⟩; have hb := Drawn0.below hd_; clear hd_; have m_ := Aside0.mk (below_step HB.out hb); clear HB ; have HB := m_; clear m_ ; clear hb)
   | ((with_reducible refine gate_callee (f := 17) rfl ?_); refine goesL_ (some 17) rfl rfl Try.func17 (by kernel_rfl) rfl #[.slice A0 l0.length c0] rfl (by (try simp only [List.map_toArray, List.map_cons, List.map_nil]); first | done | rfl | (simp only [List.length_drop, List.length_take]; rfl)) ?_; (with_reducible refine (laws_toPathS.calls k _ _ l0 x w1 ?side1 ?side2 E2.out).mono ?_); (case side1 => exact Kd.C_below HR0.out HB.out); (case side2 => exact HC0.out); rintro e w2 ⟨v1, rfl, ho0, hb⟩; refine ⟨_, rfl, ?_⟩; have H1 := Aside0.mk ho0; clear ho0; have m_ := Aside0.mk (below_step HB.out hb); clear HB ; have HB := m_; clear m_ ; clear hb; obtain ⟨A1, c1, e1⟩ := Kd.R_slice H1.out; subst e1)
   | ((with_reducible refine gate_callee (f := 40) rfl ?_); refine goesL_ (some 18) rfl rfl Try.func40 (by kernel_rfl) rfl #[.slice A1 x.length c1] rfl (by (try simp only [List.map_toArray, List.map_cons, List.map_nil]); first | done | rfl | (simp only [List.length_drop, List.length_take]; rfl)) ?_; (with_reducible refine (spec_CoverOf.calls k _ _ x Ws w2 ?side1 ?side2 E3.out).mono ?_); (case side1 => exact (Kd.R_reads' H1.out).2.2); (case side2 => exact (Kd.R_reads' H1.out).2.1); rintro e w3 ⟨vw, rfl, ho0, hb⟩; refine ⟨_, rfl, ?_⟩; have HW := Aside0.mk (Kd.S_lower (Kd.S_mono (ok' := fun k_ => k_ < w3.heap.size) (Kd.S_bound ho0) (fun k_ hk => hk.2.2.1)) (below_size HB.out)); clear ho0 H1; have m_ := Aside0.mk (below_step HB.out hb); clear HB ; have HB := m_; clear m_ ; clear hb; obtain ⟨Aw, cw, ew⟩ := Kd.S_slice HW.out; subst ew; have L3 := Aside0.mk (below_size HB.out))
   | ((with_reducible refine gate_callee (f := 17) rfl ?_); refine goesL_ (some 20) rfl rfl Try.func17 (by kernel_rfl) rfl #[.slice A0 l0.length c0] rfl (by (try simp only [List.map_toArray, List.map_cons, List.map_nil]); first | done | rfl | (simp only [List.length_drop, List.length_take]; rfl)) ?_; (with_reducible refine (laws_toPathS.calls k _ _ l0 x w3 ?side1 ?side2 E2.out).mono ?_); (case side1 => exact Kd.C_below HR0.out HB.out); (case side2 => exact HC0.out); rintro e w4 ⟨vx, rfl, ho0, hb⟩; refine ⟨_, rfl, ?_⟩; have HX := Aside0.mk (Kd.R_lower (Kd.R_mono (ok' := fun k_ => w3.heap.size ≤ k_ ∧ k_ < w4.heap.size) (Kd.R_bound ho0) (fun k_ hk => ⟨hk.2.1, hk.2.2.1⟩)) (below_size HB.out)); clear ho0; have L4 := Aside0.mk hb.size; have n0_ := Aside0.mk (Kd.S_below HW.out hb); have m_ := Aside0.mk (below_step HB.out hb); clear HB HW; have HB := m_; have HW := n0_; clear m_ n0_; clear hb; obtain ⟨Ax, cx, ex⟩ := Kd.R_slice HX.out; subst ex; have L40 := Aside0.mk (below_size HB.out))
   | ((with_reducible refine gate_callee (f := 41) rfl ?_); refine goesL_ (some 22) rfl rfl Try.func41 (by kernel_rfl) rfl #[.slice Ax x.length cx] rfl (by (try simp only [List.map_toArray, List.map_cons, List.map_nil]); first | done | rfl | (simp only [List.length_drop, List.length_take]; rfl)) ?_; (with_reducible refine (impl_CoverOf.calls k _ _ x Wi w4 ?side1 ?side2 E4.out).mono ?_); (case side1 => exact (Kd.R_reads' HX.out).2.2); (case side2 => exact (Kd.R_reads' HX.out).2.1); rintro e w5 ⟨vg, rfl, ho0, hb⟩; refine ⟨_, rfl, ?_⟩; have HG := Aside0.mk (Kd.S_mono (ok' := fun k_ => w4.heap.size ≤ k_ ∧ k_ < w5.heap.size) (Kd.S_bound ho0) (fun k_ hk => ⟨hk.2.1, hk.2.2.1⟩)); clear ho0; have n0_ := Aside0.mk (Kd.S_below HW.out hb); have n1_ := Aside0.mk (Kd.R_below HX.out hb); have m_ := Aside0.mk (below_step HB.out hb); clear HB HW HX; have HB := m_; have HW := n0_; have HX := n1_; clear m_ n0_ n1_; have HM5 := Aside0.mk hb.size; clear hb; obtain ⟨Ag, cg, eg⟩ := Kd.S_slice HG.out; subst eg)
   | ((with_reducible refine gate_callee (f := 35) rfl ?_); refine goesL_ (some 25) rfl rfl Try.func35 (by kernel_rfl) rfl #[.slice Ag Wi.length cg, .slice Aw Ws.length cw] rfl (by (try simp only [List.map_toArray, List.map_cons, List.map_nil]); first | done | rfl | (simp only [List.length_drop, List.length_take]; rfl)) ?_; (with_reducible refine (laws_eqIntSS.calls k _ _ Wi _ _ Ws true w5 ?side1 ?side2 ?side3 ?side4 E5.out).mono ?_); (case side1 => exact (Kd.S_reads' HG.out).2.2); (case side2 => exact (Kd.S_reads' HG.out).2.1); (case side3 => exact (Kd.S_reads' HW.out).2.2); (case side4 => exact (Kd.S_reads' HW.out).2.1); rintro e w6 ⟨rfl, hd_⟩; refine ⟨_, rfl, ?_⟩; have hb := Drawn0.below hd_; clear hd_; have n0_ := Aside0.mk (Kd.S_below HW.out hb); have n1_ := Aside0.mk (Kd.R_below HX.out hb); have n2_ := Aside0.mk (Kd.S_below HG.out hb); have m_ := Aside0.mk (below_step HB.out hb); clear HB HW HX HG; have HB := m_; have HW := n0_; have HX := n1_; have HG := n2_; clear m_ n0_ n1_ n2_; have HM6 := Aside0.mk (Nat.le_trans HM5.out hb.size); clear HM5 hb)
   | ((with_reducible refine gate_callee (f := 17) rfl ?_); refine goesL_ (some 29) rfl rfl Try.func17 (by kernel_rfl) rfl #[.slice A0 l0.length c0] rfl (by (try simp only [List.map_toArray, List.map_cons, List.map_nil]); first | done | rfl | (simp only [List.length_drop, List.length_take]; rfl)) ?_; (with_reducible refine (laws_toPathS.calls k _ _ l0 x w6 ?side1 ?side2 E2.out).mono ?_); (case side1 => exact Kd.C_below HR0.out HB.out); (case side2 => exact HC0.out); rintro e w7 ⟨v7, rfl, ho0, hb⟩; refine ⟨_, rfl, ?_⟩; have H1 := Aside0.mk ho0; clear ho0; have n0_ := Aside0.mk (Kd.S_below HW.out hb); have n1_ := Aside0.mk (Kd.R_below HX.out hb); have n2_ := Aside0.mk (Kd.S_below HG.out hb); have m_ := Aside0.mk (below_step HB.out hb); clear HB HW HX HG; have HB := m_; have HW := n0_; have HX := n1_; have HG := n2_; clear m_ n0_ n1_ n2_; have HM7 := Aside0.mk (Nat.le_trans HM6.out hb.size); clear HM6 hb; obtain ⟨A7, c7, e7⟩ := Kd.R_slice H1.out; subst e7)
   | ((with_reducible refine gate_callee (f := 19) rfl ?_); refine goesL_ (some 30) rfl rfl Try.func19 (by kernel_rfl) rfl #[.slice Ax x.length cx, .slice A7 x.length c7] rfl (by (try simp only [List.map_toArray, List.map_cons, List.map_nil]); first | done | rfl | (simp only [List.length_drop, List.length_take]; rfl)) ?_; (with_reducible refine (laws_eqPathS.calls k _ _ x _ _ x true w7 ?side1 ?side2 ?side3 ?side4 E6.out).mono ?_); (case side1 => exact (Kd.R_reads' HX.out).2.2); (case side2 => exact (Kd.R_reads' HX.out).2.1); (case side3 => exact (Kd.R_reads' H1.out).2.2); (case side4 => exact (Kd.R_reads' H1.out).2.1); rintro e w8 ⟨rfl, hb⟩; refine ⟨_, rfl, ?_⟩; clear H1; have n0_ := Aside0.mk (Kd.S_below HW.out hb); have n1_ := Aside0.mk (Kd.R_below HX.out hb); have n2_ := Aside0.mk (Kd.S_below HG.out hb); have m_ := Aside0.mk (below_step HB.out hb); clear HB HW HX HG; have HB := m_; have HW := n0_; have HX := n1_; have HG := n2_; clear m_ n0_ n1_ n2_; have HM8 := Aside0.mk (Nat.le_trans HM7.out hb.size); clear HM7 hb)
   | ((with_reducible refine gate_callee (f := 26) rfl ?_); refine goesL_ (some 34) rfl rfl Try.func26 (by kernel_rfl) rfl #[.slice Ax x.length cx, .int .i64 1] rfl (by (try simp only [List.map_toArray, List.map_cons, List.map_nil]); first | done | rfl | (simp only [List.length_drop, List.length_take]; rfl)) ?_; (with_reducible refine (laws_markPathS.calls k (fun k_ => w3.heap.size ≤ k_ ∧ k_ < w4.heap.size) _ x 1 kk m1 w w8 HB.out HX.out E7.out).mono ?_); rintro e w9 ⟨rfl, ho0, hb, hk⟩; refine ⟨_, rfl, ?_⟩; clear ho0; have HM := Aside0.mk (Nat.le_trans HM8.out hk.1); clear HM8; have n0_ := Aside0.mk (Kd.S_step HW.out (fun k_ h_ hlt => hk.2 k_ hlt (fun hp => Nat.lt_irrefl _ (Nat.lt_of_lt_of_le h_ hp.1)))); have n1_ := Aside0.mk (Kd.S_step HG.out (fun k_ h_ hlt => hk.2 k_ hlt (fun hp => Nat.lt_irrefl _ (Nat.lt_of_lt_of_le hp.2 h_.1)))); have n2_ := Aside0.mk hb; clear HW HG HB HX hb hk; have HW := n0_; have HG := n1_; have HB := n2_; clear n0_ n1_ n2_)
   | (go_at_call 35; (with_reducible refine (laws_eqIntSS.calls k _ _ Wi _ _ Ws true w9 ?side1 ?side2 ?side3 ?side4 E5.out).mono ?_); (case side1 => exact (Kd.S_reads' HG.out).2.2); (case side2 => exact (Kd.S_reads' HG.out).2.1); (case side3 => exact (Kd.S_reads' HW.out).2.2); (case side4 => exact (Kd.S_reads' HW.out).2.1); rintro e w10 ⟨rfl, hd_⟩; have hb := Drawn0.below hd_; clear hd_; have n0_ := Aside0.mk (Kd.S_below HW.out hb); have n1_ := Aside0.mk (Kd.S_below HG.out hb); have m_ := Aside0.mk (below_step HB.out hb); clear HB HW HG; have HB := m_; have HW := n0_; have HG := n1_; clear m_ n0_ n1_; have HN := Aside0.mk (Nat.le_trans HM.out hb.size); clear HM hb)
   | ((with_reducible refine gate_callee (f := 42) rfl ?_); refine goesL_ (some 45) rfl rfl Try.func42 (by kernel_rfl) rfl #[.slice Ag Wi.length cg, .int .i64 1] rfl (by (try simp only [List.map_toArray, List.map_cons, List.map_nil]); first | done | rfl | (simp only [List.length_drop, List.length_take]; rfl)) ?_; have hc_ : (cutAt w10 w4.heap.size).heap.size = w4.heap.size := cutAt_size _ _ (HN.out); (with_reducible refine (laws_markIntSS.calls k (fun k_ => w4.heap.size ≤ k_ ∧ k_ < w5.heap.size) _ Wi 1 mm g2 (cutAt w10 w4.heap.size) w10 ?side1 ?side2 E8.out).mono ?_); (case side1 => rw [hc_]; exact cutAt_below _ _); (case side2 => rw [hc_]; exact HG.out); rintro e w11 ⟨rfl, ho0, hb, hk⟩; refine ⟨_, rfl, ?_⟩; rw [hc_] at ho0; have n0_ := Aside0.mk (Kd.S_step HW.out (fun k_ h_ hlt => hk.2 k_ hlt (fun hp => Nat.lt_irrefl _ (Nat.lt_of_lt_of_le h_ (Nat.le_trans L4.out hp.1))))); have n1_ := Aside0.mk ho0; have n2_ := Aside0.mk (below_wrote HB.out (by rw [hc_] at hb; exact hb) hk (fun k_ hp => Nat.le_trans L40.out hp.1) (below_size HB.out)); clear HW HG HB hb hk ho0 hc_ HN; have HW := n0_; have HG := n1_; have HB := n2_; clear n0_ n1_ n2_; have hl_ := (Kd.S_reads' HG.out).1; rw [hl_]; rw [hl_] at HG; clear hl_)
   | ((with_reducible refine gate_callee (f := 43) rfl ?_); refine goesL_ (some 48) rfl rfl Try.func43 (by kernel_rfl) rfl #[.slice Ag g2.length cg, .int .i64 1] rfl (by (try simp only [List.map_toArray, List.map_cons, List.map_nil]); first | done | rfl | (simp only [List.length_drop, List.length_take]; rfl)) ?_; (with_reducible refine (laws_heldIntSS.calls k _ _ g2 1 mm w11 ?side1 ?side2 E9.out).mono ?_); (case side1 => exact (Kd.S_reads' HG.out).2.2); (case side2 => exact (Kd.S_reads' HG.out).2.1); rintro e w12 ⟨rfl, hd_⟩; refine ⟨_, rfl, ?_⟩; have hb := Drawn0.below hd_; clear hd_; have n0_ := Aside0.mk (Kd.S_below HW.out hb); have n1_ := Aside0.mk (Kd.S_below HG.out hb); have m_ := Aside0.mk (below_step HB.out hb); clear HB HW HG; have HB := m_; have HW := n0_; have HG := n1_; clear m_ n0_ n1_; clear hb)
   | ((with_reducible refine gate_callee (f := 17) rfl ?_); refine goesL_ (some 55) rfl rfl Try.func17 (by kernel_rfl) rfl #[.slice A0 l0.length c0] rfl (by (try simp only [List.map_toArray, List.map_cons, List.map_nil]); first | done | rfl | (simp only [List.length_drop, List.length_take]; rfl)) ?_; (with_reducible refine (laws_toPathS.calls k _ _ l0 x w12 ?side1 ?side2 E2.out).mono ?_); (case side1 => exact Kd.C_below HR0.out HB.out); (case side2 => exact HC0.out); rintro e w13 ⟨v13, rfl, ho0, hb⟩; refine ⟨_, rfl, ?_⟩; have H1 := Aside0.mk ho0; clear ho0; have n0_ := Aside0.mk (Kd.S_below HW.out hb); have n1_ := Aside0.mk (Kd.S_below HG.out hb); have m_ := Aside0.mk (below_step HB.out hb); clear HB HW HG; have HB := m_; have HW := n0_; have HG := n1_; clear m_ n0_ n1_; clear hb; obtain ⟨A13, c13, e13⟩ := Kd.R_slice H1.out; subst e13)
   | ((with_reducible refine gate_callee (f := 41) rfl ?_); refine goesL_ (some 56) rfl rfl Try.func41 (by kernel_rfl) rfl #[.slice A13 x.length c13] rfl (by (try simp only [List.map_toArray, List.map_cons, List.map_nil]); first | done | rfl | (simp only [List.length_drop, List.length_take]; rfl)) ?_; (with_reducible refine (impl_CoverOf.calls k _ _ x Wi w13 ?side1 ?side2 E4.out).mono ?_); (case side1 => exact (Kd.R_reads' H1.out).2.2); (case side2 => exact (Kd.R_reads' H1.out).2.1); rintro e w14 ⟨vh, rfl, ho0, hb⟩; refine ⟨_, rfl, ?_⟩; have H0 := Aside0.mk ho0; clear ho0 H1; have n0_ := Aside0.mk (Kd.S_below HW.out hb); have n1_ := Aside0.mk (Kd.S_below HG.out hb); have m_ := Aside0.mk (below_step HB.out hb); clear HB HW HG; have HB := m_; have HW := n0_; have HG := n1_; clear m_ n0_ n1_; clear hb; obtain ⟨Ah, ch, eh⟩ := Kd.S_slice H0.out; subst eh)
   | ((with_reducible refine gate_callee (f := 35) rfl ?_); refine goesL_ (some 59) rfl rfl Try.func35 (by kernel_rfl) rfl #[.slice Ah Wi.length ch, .slice Aw Ws.length cw] rfl (by (try simp only [List.map_toArray, List.map_cons, List.map_nil]); first | done | rfl | (simp only [List.length_drop, List.length_take]; rfl)) ?_; (with_reducible refine (laws_eqIntSS.calls k _ _ Wi _ _ Ws true w14 ?side1 ?side2 ?side3 ?side4 E5.out).mono ?_); (case side1 => exact (Kd.S_reads' H0.out).2.2); (case side2 => exact (Kd.S_reads' H0.out).2.1); (case side3 => exact (Kd.S_reads' HW.out).2.2); (case side4 => exact (Kd.S_reads' HW.out).2.1); rintro e w15 ⟨rfl, hd_⟩; refine ⟨_, rfl, ?_⟩; have hb := Drawn0.below hd_; clear hd_; clear H0; have n0_ := Aside0.mk (Kd.S_below HG.out hb); have m_ := Aside0.mk (below_step HB.out hb); clear HB HG; have HB := m_; have HG := n0_; clear m_ n0_; clear hb)
   | ((with_reducible refine gate_callee (f := 43) rfl ?_); refine goesL_ (some 63) rfl rfl Try.func43 (by kernel_rfl) rfl #[.slice Ag g2.length cg, .int .i64 1] rfl (by (try simp only [List.map_toArray, List.map_cons, List.map_nil]); first | done | rfl | (simp only [List.length_drop, List.length_take]; rfl)) ?_; (with_reducible refine (laws_heldIntSS.calls k _ _ g2 1 mm w15 ?side1 ?side2 E9.out).mono ?_); (case side1 => exact (Kd.S_reads' HG.out).2.2); (case side2 => exact (Kd.S_reads' HG.out).2.1); rintro e w16 ⟨rfl, hd_⟩; refine ⟨_, rfl, ?_⟩; have hb := Drawn0.below hd_; clear hd_; have m_ := Aside0.mk (below_step HB.out hb); clear HB ; have HB := m_; clear m_ ; clear hb))
 go_ret
 exact ⟨rfl, HB.out⟩
end Go.Proofs.Ytldmhlpfkclclaa.PFnExactCoverOf
