/- Our own text: the functions that FnExactPathText reaches, and what a call of each comes to (written by wip/drive.py). Each theorem states its own conditions. -/
import Derived.Test.YtfglfocjoffjpaaDoorQFnExactPathTextx0
import Derived.Test.YtfglfocjoffjpaaDoorQFnExactPathTextx1
namespace Go.Proofs.YtfglfocjoffjpaaDoor.PFnExactPathText
open Go.RowKit Go.Proofs.YtfglfocjoffjpaaDoorW.PrintWords Go.Proofs.YtfglfocjoffjpaaDoorW.PrintLast Go.Proofs.YtfglfocjoffjpaaDoorW.PrintMore
attribute [local go_sem] max2_int min2_int max_two min_two max_three min_three max_four min_four   -- for this text's walks alone
set_option linter.unusedVariables false
set_option linter.unusedSimpArgs false

/-! ### impl_PathText: function 11 -/
def impl_PathText.f (a0_0 : Int) (a0_1 : Int) (a0_2 : Int) (a0_3 : Int) : Option (ByteArray) := (impl_IsPath.f a0_0 a0_1 a0_2 a0_3).bind fun t130 => (if t130 = true then ((impl_FormatInt.f a0_0).bind fun t131 => (if 0 ≤ (wrap64 (a0_1 - 1)) then (if (wrap64 (a0_1 - 1)) ≤ a0_1 then (if a0_1 ≤ 3 then (if t131.size + ((⟨#[99, 119, 98]⟩ : ByteArray).extract ((wrap64 (a0_1 - 1)) : Int).toNat (a0_1 : Int).toNat).size ≤ 9223372036854775807 then ((impl_FormatInt.f a0_2).bind fun t132 => (if (t131 ++ ((⟨#[99, 119, 98]⟩ : ByteArray).extract ((wrap64 (a0_1 - 1)) : Int).toNat (a0_1 : Int).toNat)).size + t132.size ≤ 9223372036854775807 then ((impl_FormatInt.f a0_3).bind fun t133 => (if ((t131 ++ ((⟨#[99, 119, 98]⟩ : ByteArray).extract ((wrap64 (a0_1 - 1)) : Int).toNat (a0_1 : Int).toNat)) ++ t132).size + t133.size ≤ 9223372036854775807 then (some (((t131 ++ ((⟨#[99, 119, 98]⟩ : ByteArray).extract ((wrap64 (a0_1 - 1)) : Int).toNat (a0_1 : Int).toNat)) ++ t132) ++ t133)) else (none))) else (none))) else (none)) else (none)) else (none)) else (none))) else (some (⟨#[]⟩ : ByteArray)))
def impl_PathText.T3 : Bool × List (List Nat × List Nat) := (true, [([], []), ([0], [0]), ([1], [1]), ([], []), ([3], [3]), ([4], [4]), ([], []), ([6], [6]), ([5, 7], [5, 7]), ([2, 8], [2, 8]), ([], []), ([10], [10]), ([11, 2], [11]), ([9, 12], [9, 12]), ([], []), ([14], [14]), ([15, 12], [15]), ([13, 16], [13, 16]), ([17, 16, 0, 1, 2, 3, 4, 5, 6, 7, 8, 9, 10, 11, 12, 13, 14, 15, 16, 17], [17])])
def impl_PathText.B3 : List Nat := [0, 1, 3, 0, 8, 24, 0, 64, 248, 511, 0, 1024, 3079, 8191, 0, 16384, 56327, 131071, 262143]
theorem impl_PathText.tab3 : rtab .any (opsOf Tryd.f11 3) = impl_PathText.T3 := by kernel_rfl
theorem impl_PathText.bits3 : waitsOk impl_PathText.T3.2 impl_PathText.B3 = true := by kernel_rfl
set_option maxHeartbeats 8000000 in
set_option maxRecDepth 100000 in
theorem impl_PathText.calls (a0_0 : Int) (a0_1 : Int) (a0_2 : Int) (a0_3 : Int) (r : ByteArray) (w : World) (h : impl_PathText.f a0_0 a0_1 a0_2 a0_3 = some r) :
    Calls Tryd.prog 11 #[.agg #[.int .i64 a0_0, .int .i64 a0_1, .int .i64 a0_2, .int .i64 a0_3]] w fun e w' => e = .returned (.string r) ∧ Below w.heap.size w w' := by
  have hu27 := Tryd.underlying27
  have HB := Aside0.mk (Below.refl w.heap.size w)
  have H : ((impl_IsPath.f a0_0 a0_1 a0_2 a0_3).bind fun t130 => (if t130 = true then ((impl_FormatInt.f a0_0).bind fun t131 => (if 0 ≤ (wrap64 (a0_1 - 1)) then (if (wrap64 (a0_1 - 1)) ≤ a0_1 then (if a0_1 ≤ 3 then (if t131.size + ((⟨#[99, 119, 98]⟩ : ByteArray).extract ((wrap64 (a0_1 - 1)) : Int).toNat (a0_1 : Int).toNat).size ≤ 9223372036854775807 then ((impl_FormatInt.f a0_2).bind fun t132 => (if (t131 ++ ((⟨#[99, 119, 98]⟩ : ByteArray).extract ((wrap64 (a0_1 - 1)) : Int).toNat (a0_1 : Int).toNat)).size + t132.size ≤ 9223372036854775807 then ((impl_FormatInt.f a0_3).bind fun t133 => (if ((t131 ++ ((⟨#[99, 119, 98]⟩ : ByteArray).extract ((wrap64 (a0_1 - 1)) : Int).toNat (a0_1 : Int).toNat)) ++ t132).size + t133.size ≤ 9223372036854775807 then (some (((t131 ++ ((⟨#[99, 119, 98]⟩ : ByteArray).extract ((wrap64 (a0_1 - 1)) : Int).toNat (a0_1 : Int).toNat)) ++ t132) ++ t133)) else (none))) else (none))) else (none)) else (none)) else (none)) else (none))) else (some (⟨#[]⟩ : ByteArray)))) = some r := h
  clear h
  replace H := Option.bind_eq_some_iff.mp H
  obtain ⟨t130, A20, H⟩ := H
  replace H : (if t130 = true then ((impl_FormatInt.f a0_0).bind fun t131 => (if 0 ≤ (wrap64 (a0_1 - 1)) then (if (wrap64 (a0_1 - 1)) ≤ a0_1 then (if a0_1 ≤ 3 then (if t131.size + ((⟨#[99, 119, 98]⟩ : ByteArray).extract ((wrap64 (a0_1 - 1)) : Int).toNat (a0_1 : Int).toNat).size ≤ 9223372036854775807 then ((impl_FormatInt.f a0_2).bind fun t132 => (if (t131 ++ ((⟨#[99, 119, 98]⟩ : ByteArray).extract ((wrap64 (a0_1 - 1)) : Int).toNat (a0_1 : Int).toNat)).size + t132.size ≤ 9223372036854775807 then ((impl_FormatInt.f a0_3).bind fun t133 => (if ((t131 ++ ((⟨#[99, 119, 98]⟩ : ByteArray).extract ((wrap64 (a0_1 - 1)) : Int).toNat (a0_1 : Int).toNat)) ++ t132).size + t133.size ≤ 9223372036854775807 then (some (((t131 ++ ((⟨#[99, 119, 98]⟩ : ByteArray).extract ((wrap64 (a0_1 - 1)) : Int).toNat (a0_1 : Int).toNat)) ++ t132) ++ t133)) else (none))) else (none))) else (none)) else (none)) else (none)) else (none))) else (some (⟨#[]⟩ : ByteArray))) = some r := H
  have A2 := Aside0.mk A20
  clear A20
  by_cases c3 : t130 = true
  · subst c3
    have H1 : ((impl_FormatInt.f a0_0).bind fun t131 => (if 0 ≤ (wrap64 (a0_1 - 1)) then (if (wrap64 (a0_1 - 1)) ≤ a0_1 then (if a0_1 ≤ 3 then (if t131.size + ((⟨#[99, 119, 98]⟩ : ByteArray).extract ((wrap64 (a0_1 - 1)) : Int).toNat (a0_1 : Int).toNat).size ≤ 9223372036854775807 then ((impl_FormatInt.f a0_2).bind fun t132 => (if (t131 ++ ((⟨#[99, 119, 98]⟩ : ByteArray).extract ((wrap64 (a0_1 - 1)) : Int).toNat (a0_1 : Int).toNat)).size + t132.size ≤ 9223372036854775807 then ((impl_FormatInt.f a0_3).bind fun t133 => (if ((t131 ++ ((⟨#[99, 119, 98]⟩ : ByteArray).extract ((wrap64 (a0_1 - 1)) : Int).toNat (a0_1 : Int).toNat)) ++ t132).size + t133.size ≤ 9223372036854775807 then (some (((t131 ++ ((⟨#[99, 119, 98]⟩ : ByteArray).extract ((wrap64 (a0_1 - 1)) : Int).toNat (a0_1 : Int).toNat)) ++ t132) ++ t133)) else (none))) else (none))) else (none)) else (none)) else (none)) else (none))) = some r := by rw [if_pos rfl] at H; exact H
    clear H
    have H := H1
    clear H1
    replace H := Option.bind_eq_some_iff.mp H
    obtain ⟨t131, A40, H⟩ := H
    replace H : (if 0 ≤ (wrap64 (a0_1 - 1)) then (if (wrap64 (a0_1 - 1)) ≤ a0_1 then (if a0_1 ≤ 3 then (if t131.size + ((⟨#[99, 119, 98]⟩ : ByteArray).extract ((wrap64 (a0_1 - 1)) : Int).toNat (a0_1 : Int).toNat).size ≤ 9223372036854775807 then ((impl_FormatInt.f a0_2).bind fun t132 => (if (t131 ++ ((⟨#[99, 119, 98]⟩ : ByteArray).extract ((wrap64 (a0_1 - 1)) : Int).toNat (a0_1 : Int).toNat)).size + t132.size ≤ 9223372036854775807 then ((impl_FormatInt.f a0_3).bind fun t133 => (if ((t131 ++ ((⟨#[99, 119, 98]⟩ : ByteArray).extract ((wrap64 (a0_1 - 1)) : Int).toNat (a0_1 : Int).toNat)) ++ t132).size + t133.size ≤ 9223372036854775807 then (some (((t131 ++ ((⟨#[99, 119, 98]⟩ : ByteArray).extract ((wrap64 (a0_1 - 1)) : Int).toNat (a0_1 : Int).toNat)) ++ t132) ++ t133)) else (none))) else (none))) else (none)) else (none)) else (none)) else (none)) = some r := H
    have A4 := Aside0.mk A40
    clear A40
    obtain ⟨ji5, hji5⟩ : ∃ j_ : Int, (wrap64 (a0_1 - 1)) = j_ := ⟨_, rfl⟩
    replace H : (if 0 ≤ (ji5) then (if (ji5) ≤ a0_1 then (if a0_1 ≤ 3 then (if t131.size + ((⟨#[99, 119, 98]⟩ : ByteArray).extract ((ji5) : Int).toNat (a0_1 : Int).toNat).size ≤ 9223372036854775807 then ((impl_FormatInt.f a0_2).bind fun t132 => (if (t131 ++ ((⟨#[99, 119, 98]⟩ : ByteArray).extract ((ji5) : Int).toNat (a0_1 : Int).toNat)).size + t132.size ≤ 9223372036854775807 then ((impl_FormatInt.f a0_3).bind fun t133 => (if ((t131 ++ ((⟨#[99, 119, 98]⟩ : ByteArray).extract ((ji5) : Int).toNat (a0_1 : Int).toNat)) ++ t132).size + t133.size ≤ 9223372036854775807 then (some (((t131 ++ ((⟨#[99, 119, 98]⟩ : ByteArray).extract ((ji5) : Int).toNat (a0_1 : Int).toNat)) ++ t132) ++ t133)) else (none))) else (none))) else (none)) else (none)) else (none)) else (none)) = some r := by first | (rw [hji5] at H; exact H) | (simp only [hji5] at H ⊢; exact H)
    (try rw [hji5] at A2)
    (try rw [hji5] at A4)
    have hji5w : (IntKind.i64.wrap (a0_1 - 1)) = ji5 := (i64_w _).trans hji5
    by_cases c6 : 0 ≤ (ji5)
    · rw [if_pos c6] at H
      have c6b0 := eq_true c6
      have c6b1 : decide (0 ≤ (ji5)) = true := decide_eq_true c6
      clear c6
      by_cases c7 : (ji5) ≤ a0_1
      · rw [if_pos c7] at H
        have c7b0 := eq_true c7
        have c7b1 : decide ((ji5) ≤ a0_1) = true := decide_eq_true c7
        clear c7
        by_cases c8 : a0_1 ≤ 3
        · rw [if_pos c8] at H
          have c8b0 := eq_true c8
          have c8b1 : decide (a0_1 ≤ 3) = true := decide_eq_true c8
          clear c8
          by_cases c9 : t131.size + ((⟨#[99, 119, 98]⟩ : ByteArray).extract ((ji5) : Int).toNat (a0_1 : Int).toNat).size ≤ 9223372036854775807
          · rw [if_pos c9] at H
            have c9b0 := eq_true c9
            have c9b1 : decide (t131.size + ((⟨#[99, 119, 98]⟩ : ByteArray).extract ((ji5) : Int).toNat (a0_1 : Int).toNat).size ≤ 9223372036854775807) = true := decide_eq_true c9
            try have c9b2 : (9223372036854775807 < t131.size + ((⟨#[99, 119, 98]⟩ : ByteArray).extract ((ji5) : Int).toNat (a0_1 : Int).toNat).size) = False := eq_false (Nat.not_lt.2 c9)
            replace H := Option.bind_eq_some_iff.mp H
            obtain ⟨t132, A100, H⟩ := H
            replace H : (if (t131 ++ ((⟨#[99, 119, 98]⟩ : ByteArray).extract ((ji5) : Int).toNat (a0_1 : Int).toNat)).size + t132.size ≤ 9223372036854775807 then ((impl_FormatInt.f a0_3).bind fun t133 => (if ((t131 ++ ((⟨#[99, 119, 98]⟩ : ByteArray).extract ((ji5) : Int).toNat (a0_1 : Int).toNat)) ++ t132).size + t133.size ≤ 9223372036854775807 then (some (((t131 ++ ((⟨#[99, 119, 98]⟩ : ByteArray).extract ((ji5) : Int).toNat (a0_1 : Int).toNat)) ++ t132) ++ t133)) else (none))) else (none)) = some r := H
            have A10 := Aside0.mk A100
            clear A100
            by_cases c11 : (t131 ++ ((⟨#[99, 119, 98]⟩ : ByteArray).extract ((ji5) : Int).toNat (a0_1 : Int).toNat)).size + t132.size ≤ 9223372036854775807
            · rw [if_pos c11] at H
              have c11b0 := eq_true c11
              have c11b1 : decide ((t131 ++ ((⟨#[99, 119, 98]⟩ : ByteArray).extract ((ji5) : Int).toNat (a0_1 : Int).toNat)).size + t132.size ≤ 9223372036854775807) = true := decide_eq_true c11
              try have c11b2 : (9223372036854775807 < (t131 ++ ((⟨#[99, 119, 98]⟩ : ByteArray).extract ((ji5) : Int).toNat (a0_1 : Int).toNat)).size + t132.size) = False := eq_false (Nat.not_lt.2 c11)
              replace H := Option.bind_eq_some_iff.mp H
              obtain ⟨t133, A120, H⟩ := H
              replace H : (if ((t131 ++ ((⟨#[99, 119, 98]⟩ : ByteArray).extract ((ji5) : Int).toNat (a0_1 : Int).toNat)) ++ t132).size + t133.size ≤ 9223372036854775807 then (some (((t131 ++ ((⟨#[99, 119, 98]⟩ : ByteArray).extract ((ji5) : Int).toNat (a0_1 : Int).toNat)) ++ t132) ++ t133)) else (none)) = some r := H
              have A12 := Aside0.mk A120
              clear A120
              by_cases c13 : ((t131 ++ ((⟨#[99, 119, 98]⟩ : ByteArray).extract ((ji5) : Int).toNat (a0_1 : Int).toNat)) ++ t132).size + t133.size ≤ 9223372036854775807
              · rw [if_pos c13] at H
                have c13b0 := eq_true c13
                have c13b1 : decide (((t131 ++ ((⟨#[99, 119, 98]⟩ : ByteArray).extract ((ji5) : Int).toNat (a0_1 : Int).toNat)) ++ t132).size + t133.size ≤ 9223372036854775807) = true := decide_eq_true c13
                try have c13b2 : (9223372036854775807 < ((t131 ++ ((⟨#[99, 119, 98]⟩ : ByteArray).extract ((ji5) : Int).toNat (a0_1 : Int).toNat)) ++ t132).size + t133.size) = False := eq_false (Nat.not_lt.2 c13)
                obtain rfl := Option.some.inj H
                go_enter Tryd.func11, Tryd.ntmps11
                try go_wp2_with (first | ((with_reducible refine gate_dst (N := 1) rfl ?_); refine box_event ?hg (N := 1) ?hd (cs := #[.int .i64 a0_0, .int .i64 a0_1, .int .i64 a0_2, .int .i64 a0_3]) (t := 27) ?hr ?_; (case hd => rfl); (case hg => rfl); (case hr => first | (go_simp; done) | (go_simp; rfl)); intro gb129 hg w14 hbox hb; have n0_ := Aside0.mk (below_step (by repeat (first | (with_reducible first | exact HB.out | apply below_alloc | apply pw_below_drewN | apply below_drew1) | exact HB.out)) hb); have n1_ := Aside0.mk (hbox); have n2_ := Aside0.mk ((by rw [hg]; exact (below_size (by repeat (first | (with_reducible first | exact HB.out | apply below_alloc | apply pw_below_drewN | apply below_drew1) | exact HB.out))) : w.heap.size ≤ gb129)); have n3_ := Aside0.mk ((by rw [hg]; exact (below_size (by repeat (first | (with_reducible first | exact HB.out | apply below_alloc | apply pw_below_drewN | apply below_drew1) | exact HB.out))) : w.heap.size ≤ gb129)); clear HB; have HB := n0_; have BK129 := n1_; have GW129 := n2_; have GE129 := n3_; clear n0_ n1_ n2_ n3_; clear hb hbox hg; have hcz15_0 : w14.cell? ⟨gb129, 0, none⟩ = some (.int .i64 a0_0) := (blk_cell BK129.out 0).trans rfl; have hcz15_1 : w14.cell? ⟨gb129, 1, none⟩ = some (.int .i64 a0_1) := (blk_cell BK129.out 1).trans rfl; have hcz15_2 : w14.cell? ⟨gb129, 2, none⟩ = some (.int .i64 a0_2) := (blk_cell BK129.out 2).trans rfl; have hcz15_3 : w14.cell? ⟨gb129, 3, none⟩ = some (.int .i64 a0_3) := (blk_cell BK129.out 3).trans rfl; have hfz15_0 := blk_frozen BK129.out 0; have hfz15_1 := blk_frozen BK129.out 1; have hfz15_2 := blk_frozen BK129.out 2; have hfz15_3 := blk_frozen BK129.out 3) | ((with_reducible refine gate_callee (f := 14) rfl ?_); refine goesL_ (some 4) rfl rfl Tryd.func14 (by kernel_rfl) rfl #[.agg #[.int .i64 a0_0, .int .i64 a0_1, .int .i64 a0_2, .int .i64 a0_3]] rfl (by (try simp only [List.map_toArray, List.map_cons, List.map_nil]); first | done | rfl | (simp only [List.length_drop, List.length_take]; rfl)) ?_; (with_reducible refine (impl_IsPath.calls a0_0 a0_1 a0_2 a0_3 true _ A2.out).mono ?_); rintro e w16 ⟨rfl, hb⟩; refine ⟨_, rfl, ?_⟩; have n0_ := Aside0.mk (blk_below (g := gb129) (o := .cells #[.int .i64 a0_0, .int .i64 a0_1, .int .i64 a0_2, .int .i64 a0_3] 27 (0, 0)) (by (with_reducible repeat (first | refine blk_drewN ?_ _ | refine blk_drew ?_ | refine blk_alloc ?_ _)); exact BK129.out) hb); have n1_ := Aside0.mk (below_step (by repeat (first | (with_reducible first | exact HB.out | apply below_alloc | apply pw_below_drewN | apply below_drew1 | refine below_set ?_ GE129.out) | exact HB.out)) hb); clear BK129; clear HB; have BK129 := n0_; have HB := n1_; clear n0_ n1_; (try clear hb); (try clear hb2); (try clear hk); (try clear hi)))
                have n0_ := Aside0.mk (blk_drew BK129.out)
                have n1_ := Aside0.mk (below_drew1 HB.out)
                clear BK129
                clear HB
                have BK129 := n0_
                have HB := n1_
                clear n0_ n1_
                refine start_ (n := 19) (S := fun w' => w'.cell? ⟨gb129, 0, none⟩ = some (.int .i64 a0_0) ∧ w'.cell? ⟨gb129, 1, none⟩ = some (.int .i64 a0_1) ∧ w'.cell? ⟨gb129, 2, none⟩ = some (.int .i64 a0_2) ∧ w'.cell? ⟨gb129, 3, none⟩ = some (.int .i64 a0_3)) (ds := []) #[false, false, false, false, false, false, false, false, false, false, false, false, false, false, false, false, false, false, false] (by kernel_rfl) rfl rfl ⟨(blk_cell BK129.out 0).trans rfl, (blk_cell BK129.out 1).trans rfl, (blk_cell BK129.out 2).trans rfl, (blk_cell BK129.out 3).trans rfl⟩ (fun hHeld => ?_); refine with_tabW impl_PathText.tab3 impl_PathText.bits3 (fun HT_ HW_ => ?_)
                generalize w16.drew = w17 at BK129 HB hHeld ⊢
                refine pure_ (i := 0) (N := some 6) (v := ?_) (a' := ?_) #[true, false, false, false, false, false, false, false, false, false, false, false, false, false, false, false, false, false, false] rfl rfl (any_of HT_.out (by kernel_rfl)) (fun _ _ _ h => h) (Or.inl ⟨by rfl, ?_⟩) ?_ ?_
                rotate_left
                · intro w'
                  go_simp
                  first | with_reducible rfl | (rw [if_neg (by first | (have hz_ := c9; have hy_ : (⟨#[99, 119, 98]⟩ : ByteArray).size = 3 := rfl; have hx_ : a0_1 ≤ 3 := of_decide_eq_true (by assumption); simp [ByteArray.size_extract, ByteArray.size_append] at hz_ ⊢; omega) | (have hz_ := c11; have hy_ : (⟨#[99, 119, 98]⟩ : ByteArray).size = 3 := rfl; have hx_ : a0_1 ≤ 3 := of_decide_eq_true (by assumption); simp [ByteArray.size_extract, ByteArray.size_append] at hz_ ⊢; omega) | (have hz_ := c13; have hy_ : (⟨#[99, 119, 98]⟩ : ByteArray).size = 3 := rfl; have hx_ : a0_1 ≤ 3 := of_decide_eq_true (by assumption); simp [ByteArray.size_extract, ByteArray.size_append] at hz_ ⊢; omega))] <;> try rfl)
                rotate_left
                · simp only [Act.put, List.setIfInBounds_toArray, List.set_cons_zero, List.set_cons_succ, i64_w, i32_w]
                  rfl
                refine pure_ (i := 3) (N := some 9) (v := ?_) (a' := ?_) #[true, false, false, true, false, false, false, false, false, false, false, false, false, false, false, false, false, false, false] rfl rfl (any_of HT_.out (by kernel_rfl)) (fun _ _ _ h => h) (Or.inl ⟨by rfl, ?_⟩) ?_ ?_
                rotate_left
                · intro w'
                  go_simp
                  first | with_reducible rfl | (rw [if_neg (by first | (have hz_ := c9; have hy_ : (⟨#[99, 119, 98]⟩ : ByteArray).size = 3 := rfl; have hx_ : a0_1 ≤ 3 := of_decide_eq_true (by assumption); simp [ByteArray.size_extract, ByteArray.size_append] at hz_ ⊢; omega) | (have hz_ := c11; have hy_ : (⟨#[99, 119, 98]⟩ : ByteArray).size = 3 := rfl; have hx_ : a0_1 ≤ 3 := of_decide_eq_true (by assumption); simp [ByteArray.size_extract, ByteArray.size_append] at hz_ ⊢; omega) | (have hz_ := c13; have hy_ : (⟨#[99, 119, 98]⟩ : ByteArray).size = 3 := rfl; have hx_ : a0_1 ≤ 3 := of_decide_eq_true (by assumption); simp [ByteArray.size_extract, ByteArray.size_append] at hz_ ⊢; omega))] <;> try rfl)
                rotate_left
                · simp only [Act.put, List.setIfInBounds_toArray, List.set_cons_zero, List.set_cons_succ, i64_w, i32_w]
                  rfl
                refine pure_ (i := 6) (N := some 12) (v := ?_) (a' := ?_) #[true, false, false, true, false, false, true, false, false, false, false, false, false, false, false, false, false, false, false] rfl rfl (any_of HT_.out (by kernel_rfl)) (fun _ _ _ h => h) (Or.inl ⟨by rfl, ?_⟩) ?_ ?_
                rotate_left
                · intro w'
                  go_simp
                  first | with_reducible rfl | (rw [if_neg (by first | (have hz_ := c9; have hy_ : (⟨#[99, 119, 98]⟩ : ByteArray).size = 3 := rfl; have hx_ : a0_1 ≤ 3 := of_decide_eq_true (by assumption); simp [ByteArray.size_extract, ByteArray.size_append] at hz_ ⊢; omega) | (have hz_ := c11; have hy_ : (⟨#[99, 119, 98]⟩ : ByteArray).size = 3 := rfl; have hx_ : a0_1 ≤ 3 := of_decide_eq_true (by assumption); simp [ByteArray.size_extract, ByteArray.size_append] at hz_ ⊢; omega) | (have hz_ := c13; have hy_ : (⟨#[99, 119, 98]⟩ : ByteArray).size = 3 := rfl; have hx_ : a0_1 ≤ 3 := of_decide_eq_true (by assumption); simp [ByteArray.size_extract, ByteArray.size_append] at hz_ ⊢; omega))] <;> try rfl)
                rotate_left
                · simp only [Act.put, List.setIfInBounds_toArray, List.set_cons_zero, List.set_cons_succ, i64_w, i32_w]
                  rfl
                refine pure_ (i := 10) (N := some 16) (v := ?_) (a' := ?_) #[true, false, false, true, false, false, true, false, false, false, true, false, false, false, false, false, false, false, false] rfl rfl (any_of HT_.out (by kernel_rfl)) (fun _ _ _ h => h) (Or.inl ⟨by rfl, ?_⟩) ?_ ?_
                rotate_left
                · intro w'
                  go_simp
                  first | with_reducible rfl | (rw [if_neg (by first | (have hz_ := c9; have hy_ : (⟨#[99, 119, 98]⟩ : ByteArray).size = 3 := rfl; have hx_ : a0_1 ≤ 3 := of_decide_eq_true (by assumption); simp [ByteArray.size_extract, ByteArray.size_append] at hz_ ⊢; omega) | (have hz_ := c11; have hy_ : (⟨#[99, 119, 98]⟩ : ByteArray).size = 3 := rfl; have hx_ : a0_1 ≤ 3 := of_decide_eq_true (by assumption); simp [ByteArray.size_extract, ByteArray.size_append] at hz_ ⊢; omega) | (have hz_ := c13; have hy_ : (⟨#[99, 119, 98]⟩ : ByteArray).size = 3 := rfl; have hx_ : a0_1 ≤ 3 := of_decide_eq_true (by assumption); simp [ByteArray.size_extract, ByteArray.size_append] at hz_ ⊢; omega))] <;> try rfl)
                rotate_left
                · simp only [Act.put, List.setIfInBounds_toArray, List.set_cons_zero, List.set_cons_succ, i64_w, i32_w]
                  rfl
                refine pure_ (i := 14) (N := some 20) (v := ?_) (a' := ?_) #[true, false, false, true, false, false, true, false, false, false, true, false, false, false, true, false, false, false, false] rfl rfl (any_of HT_.out (by kernel_rfl)) (fun _ _ _ h => h) (Or.inl ⟨by rfl, ?_⟩) ?_ ?_
                rotate_left
                · intro w'
                  go_simp
                  first | with_reducible rfl | (rw [if_neg (by first | (have hz_ := c9; have hy_ : (⟨#[99, 119, 98]⟩ : ByteArray).size = 3 := rfl; have hx_ : a0_1 ≤ 3 := of_decide_eq_true (by assumption); simp [ByteArray.size_extract, ByteArray.size_append] at hz_ ⊢; omega) | (have hz_ := c11; have hy_ : (⟨#[99, 119, 98]⟩ : ByteArray).size = 3 := rfl; have hx_ : a0_1 ≤ 3 := of_decide_eq_true (by assumption); simp [ByteArray.size_extract, ByteArray.size_append] at hz_ ⊢; omega) | (have hz_ := c13; have hy_ : (⟨#[99, 119, 98]⟩ : ByteArray).size = 3 := rfl; have hx_ : a0_1 ≤ 3 := of_decide_eq_true (by assumption); simp [ByteArray.size_extract, ByteArray.size_append] at hz_ ⊢; omega))] <;> try rfl)
                rotate_left
                · simp only [Act.put, List.setIfInBounds_toArray, List.set_cons_zero, List.set_cons_succ, i64_w, i32_w]
                  rfl
                refine take_ (i := 1) (N := some 7) (v := ?_) (a' := ?_) #[true, true, false, true, false, false, true, false, false, false, true, false, false, false, true, false, false, false, false] rfl rfl (take_ofW HT_.out HW_.out (by kernel_rfl)) (fun _ _ _ h => h) (Or.inl ⟨by rfl, ?_⟩) hHeld ?_ ?_
                rotate_left
                · rintro w' ⟨s0, s1, s2, s3⟩
                  go_simp
                  first | with_reducible rfl | (rw [if_neg (by first | (have hz_ := c9; have hy_ : (⟨#[99, 119, 98]⟩ : ByteArray).size = 3 := rfl; have hx_ : a0_1 ≤ 3 := of_decide_eq_true (by assumption); simp [ByteArray.size_extract, ByteArray.size_append] at hz_ ⊢; omega) | (have hz_ := c11; have hy_ : (⟨#[99, 119, 98]⟩ : ByteArray).size = 3 := rfl; have hx_ : a0_1 ≤ 3 := of_decide_eq_true (by assumption); simp [ByteArray.size_extract, ByteArray.size_append] at hz_ ⊢; omega) | (have hz_ := c13; have hy_ : (⟨#[99, 119, 98]⟩ : ByteArray).size = 3 := rfl; have hx_ : a0_1 ≤ 3 := of_decide_eq_true (by assumption); simp [ByteArray.size_extract, ByteArray.size_append] at hz_ ⊢; omega))] <;> try rfl)
                rotate_left
                · simp only [Act.put, List.setIfInBounds_toArray, List.set_cons_zero, List.set_cons_succ, i64_w, i32_w]
                  rfl
                refine take_ (i := 4) (N := some 10) (v := ?_) (a' := ?_) #[true, true, false, true, true, false, true, false, false, false, true, false, false, false, true, false, false, false, false] rfl rfl (take_ofW HT_.out HW_.out (by kernel_rfl)) (fun _ _ _ h => h) (Or.inl ⟨by rfl, ?_⟩) hHeld ?_ ?_
                rotate_left
                · rintro w' ⟨s0, s1, s2, s3⟩
                  go_simp
                  first | with_reducible rfl | (rw [if_neg (by first | (have hz_ := c9; have hy_ : (⟨#[99, 119, 98]⟩ : ByteArray).size = 3 := rfl; have hx_ : a0_1 ≤ 3 := of_decide_eq_true (by assumption); simp [ByteArray.size_extract, ByteArray.size_append] at hz_ ⊢; omega) | (have hz_ := c11; have hy_ : (⟨#[99, 119, 98]⟩ : ByteArray).size = 3 := rfl; have hx_ : a0_1 ≤ 3 := of_decide_eq_true (by assumption); simp [ByteArray.size_extract, ByteArray.size_append] at hz_ ⊢; omega) | (have hz_ := c13; have hy_ : (⟨#[99, 119, 98]⟩ : ByteArray).size = 3 := rfl; have hx_ : a0_1 ≤ 3 := of_decide_eq_true (by assumption); simp [ByteArray.size_extract, ByteArray.size_append] at hz_ ⊢; omega))] <;> try rfl)
                rotate_left
                · simp only [Act.put, List.setIfInBounds_toArray, List.set_cons_zero, List.set_cons_succ, i64_w, i32_w]
                  rfl
                refine pure_ (i := 5) (N := some 11) (v := ?_) (a' := ?_) #[true, true, false, true, true, true, true, false, false, false, true, false, false, false, true, false, false, false, false] rfl rfl (any_of HT_.out (by kernel_rfl)) (fun _ _ _ h => h) (Or.inl ⟨by rfl, ?_⟩) ?_ ?_
                rotate_left
                · intro w'
                  go_simp
                  first | with_reducible rfl | (rw [if_neg (by first | (have hz_ := c9; have hy_ : (⟨#[99, 119, 98]⟩ : ByteArray).size = 3 := rfl; have hx_ : a0_1 ≤ 3 := of_decide_eq_true (by assumption); simp [ByteArray.size_extract, ByteArray.size_append] at hz_ ⊢; omega) | (have hz_ := c11; have hy_ : (⟨#[99, 119, 98]⟩ : ByteArray).size = 3 := rfl; have hx_ : a0_1 ≤ 3 := of_decide_eq_true (by assumption); simp [ByteArray.size_extract, ByteArray.size_append] at hz_ ⊢; omega) | (have hz_ := c13; have hy_ : (⟨#[99, 119, 98]⟩ : ByteArray).size = 3 := rfl; have hx_ : a0_1 ≤ 3 := of_decide_eq_true (by assumption); simp [ByteArray.size_extract, ByteArray.size_append] at hz_ ⊢; omega))] <;> try rfl)
                rotate_left
                · simp only [Act.put, List.setIfInBounds_toArray, List.set_cons_zero, List.set_cons_succ, i64_w, i32_w]
                  rfl
                refine take_ (i := 7) (N := some 13) (v := ?_) (a' := ?_) #[true, true, false, true, true, true, true, true, false, false, true, false, false, false, true, false, false, false, false] rfl rfl (take_ofW HT_.out HW_.out (by kernel_rfl)) (fun _ _ _ h => h) (Or.inl ⟨by rfl, ?_⟩) hHeld ?_ ?_
                rotate_left
                · rintro w' ⟨s0, s1, s2, s3⟩
                  go_simp
                  first | with_reducible rfl | (rw [if_neg (by first | (have hz_ := c9; have hy_ : (⟨#[99, 119, 98]⟩ : ByteArray).size = 3 := rfl; have hx_ : a0_1 ≤ 3 := of_decide_eq_true (by assumption); simp [ByteArray.size_extract, ByteArray.size_append] at hz_ ⊢; omega) | (have hz_ := c11; have hy_ : (⟨#[99, 119, 98]⟩ : ByteArray).size = 3 := rfl; have hx_ : a0_1 ≤ 3 := of_decide_eq_true (by assumption); simp [ByteArray.size_extract, ByteArray.size_append] at hz_ ⊢; omega) | (have hz_ := c13; have hy_ : (⟨#[99, 119, 98]⟩ : ByteArray).size = 3 := rfl; have hx_ : a0_1 ≤ 3 := of_decide_eq_true (by assumption); simp [ByteArray.size_extract, ByteArray.size_append] at hz_ ⊢; omega))] <;> try rfl)
                rotate_left
                · simp only [Act.put, List.setIfInBounds_toArray, List.set_cons_zero, List.set_cons_succ, i64_w, i32_w]
                  rfl
                refine pure_ (i := 8) (N := some 14) (v := ?_) (a' := ?_) #[true, true, false, true, true, true, true, true, true, false, true, false, false, false, true, false, false, false, false] rfl rfl (any_of HT_.out (by kernel_rfl)) (fun _ _ _ h => h) (Or.inl ⟨by rfl, ?_⟩) ?_ ?_
                rotate_left
                · intro w'
                  go_simp
                  first | with_reducible rfl | (rw [if_neg (by first | (have hz_ := c9; have hy_ : (⟨#[99, 119, 98]⟩ : ByteArray).size = 3 := rfl; have hx_ : a0_1 ≤ 3 := of_decide_eq_true (by assumption); simp [ByteArray.size_extract, ByteArray.size_append] at hz_ ⊢; omega) | (have hz_ := c11; have hy_ : (⟨#[99, 119, 98]⟩ : ByteArray).size = 3 := rfl; have hx_ : a0_1 ≤ 3 := of_decide_eq_true (by assumption); simp [ByteArray.size_extract, ByteArray.size_append] at hz_ ⊢; omega) | (have hz_ := c13; have hy_ : (⟨#[99, 119, 98]⟩ : ByteArray).size = 3 := rfl; have hx_ : a0_1 ≤ 3 := of_decide_eq_true (by assumption); simp [ByteArray.size_extract, ByteArray.size_append] at hz_ ⊢; omega))] <;> try rfl)
                rotate_left
                · simp only [Act.put, List.setIfInBounds_toArray, List.set_cons_zero, List.set_cons_succ, i64_w, i32_w]
                  rfl
                refine take_ (i := 11) (N := some 17) (v := ?_) (a' := ?_) #[true, true, false, true, true, true, true, true, true, false, true, true, false, false, true, false, false, false, false] rfl rfl (take_ofW HT_.out HW_.out (by kernel_rfl)) (fun _ _ _ h => h) (Or.inl ⟨by rfl, ?_⟩) hHeld ?_ ?_
                rotate_left
                · rintro w' ⟨s0, s1, s2, s3⟩
                  go_simp
                  first | with_reducible rfl | (rw [if_neg (by first | (have hz_ := c9; have hy_ : (⟨#[99, 119, 98]⟩ : ByteArray).size = 3 := rfl; have hx_ : a0_1 ≤ 3 := of_decide_eq_true (by assumption); simp [ByteArray.size_extract, ByteArray.size_append] at hz_ ⊢; omega) | (have hz_ := c11; have hy_ : (⟨#[99, 119, 98]⟩ : ByteArray).size = 3 := rfl; have hx_ : a0_1 ≤ 3 := of_decide_eq_true (by assumption); simp [ByteArray.size_extract, ByteArray.size_append] at hz_ ⊢; omega) | (have hz_ := c13; have hy_ : (⟨#[99, 119, 98]⟩ : ByteArray).size = 3 := rfl; have hx_ : a0_1 ≤ 3 := of_decide_eq_true (by assumption); simp [ByteArray.size_extract, ByteArray.size_append] at hz_ ⊢; omega))] <;> try rfl)
                rotate_left
                · simp only [Act.put, List.setIfInBounds_toArray, List.set_cons_zero, List.set_cons_succ, i64_w, i32_w]
                  rfl
                refine take_ (i := 15) (N := some 21) (v := ?_) (a' := ?_) #[true, true, false, true, true, true, true, true, true, false, true, true, false, false, true, true, false, false, false] rfl rfl (take_ofW HT_.out HW_.out (by kernel_rfl)) (fun _ _ _ h => h) (Or.inl ⟨by rfl, ?_⟩) hHeld ?_ ?_
                rotate_left
                · rintro w' ⟨s0, s1, s2, s3⟩
                  go_simp
                  first | with_reducible rfl | (rw [if_neg (by first | (have hz_ := c9; have hy_ : (⟨#[99, 119, 98]⟩ : ByteArray).size = 3 := rfl; have hx_ : a0_1 ≤ 3 := of_decide_eq_true (by assumption); simp [ByteArray.size_extract, ByteArray.size_append] at hz_ ⊢; omega) | (have hz_ := c11; have hy_ : (⟨#[99, 119, 98]⟩ : ByteArray).size = 3 := rfl; have hx_ : a0_1 ≤ 3 := of_decide_eq_true (by assumption); simp [ByteArray.size_extract, ByteArray.size_append] at hz_ ⊢; omega) | (have hz_ := c13; have hy_ : (⟨#[99, 119, 98]⟩ : ByteArray).size = 3 := rfl; have hx_ : a0_1 ≤ 3 := of_decide_eq_true (by assumption); simp [ByteArray.size_extract, ByteArray.size_append] at hz_ ⊢; omega))] <;> try rfl)
                rotate_left
                · simp only [Act.put, List.setIfInBounds_toArray, List.set_cons_zero, List.set_cons_succ, i64_w, i32_w]
                  rfl
                refine one_ (i := 2) (N := some 8) #[true, true, true, true, true, true, true, true, true, false, true, true, false, false, true, true, false, false, false] rfl rfl (one_of HT_.out (by kernel_rfl)) (by decide) (fun K hK => ?_)
                refine goes_ Tryd.func8 (by kernel_rfl) rfl #[.int .i64 a0_0] (by rfl) rfl rfl (by (try simp only [List.map_toArray, List.map_cons, List.map_nil]); first | done | rfl | (simp only [List.length_drop, List.length_take]; rfl)) ?_
                with_reducible refine (impl_FormatInt.calls a0_0 t131 _ A4.out).mono ?_
                rintro e w18 ⟨rfl, hb⟩
                refine ⟨_, rfl, ?_⟩
                have n0_ := Aside0.mk (blk_below (g := gb129) (o := .cells #[.int .i64 a0_0, .int .i64 a0_1, .int .i64 a0_2, .int .i64 a0_3] 27 (0, 0)) (by (with_reducible repeat (first | refine blk_drewN ?_ _ | refine blk_drew ?_ | refine blk_alloc ?_ _)); exact BK129.out) hb)
                have n1_ := Aside0.mk (below_step (by repeat (first | (with_reducible first | exact HB.out | apply below_alloc | apply pw_below_drewN | apply below_drew1 | refine below_set ?_ GE129.out) | exact HB.out)) hb)
                clear BK129
                clear HB
                have BK129 := n0_
                have HB := n1_
                clear n0_ n1_
                (try clear hb)
                (try clear hb2)
                (try clear hk)
                (try clear hi)
                refine hK.out _ _ ⟨(blk_cell BK129.out 0).trans rfl, (blk_cell BK129.out 1).trans rfl, (blk_cell BK129.out 2).trans rfl, (blk_cell BK129.out 3).trans rfl⟩ (fun hHeld => ?_)
                clear hK K
                refine norm_ (a' := ?_) ?_ ?_
                rotate_left
                · show Act.put _ (some 8) _ = _
                  simp only [Act.put, List.setIfInBounds_toArray, List.set_cons_zero, List.set_cons_succ, i64_w, i32_w]
                  rfl
                refine pure_ (i := 9) (N := some 15) (v := ?_) (a' := ?_) #[true, true, true, true, true, true, true, true, true, true, true, true, false, false, true, true, false, false, false] rfl rfl (any_of HT_.out (by kernel_rfl)) (fun _ _ _ h => h) (Or.inl ⟨by rfl, ?_⟩) ?_ ?_
                rotate_left
                · intro w'
                  go_simp
                  first | with_reducible rfl | (rw [if_neg (by first | (have hz_ := c9; have hy_ : (⟨#[99, 119, 98]⟩ : ByteArray).size = 3 := rfl; have hx_ : a0_1 ≤ 3 := of_decide_eq_true (by assumption); simp [ByteArray.size_extract, ByteArray.size_append] at hz_ ⊢; omega) | (have hz_ := c11; have hy_ : (⟨#[99, 119, 98]⟩ : ByteArray).size = 3 := rfl; have hx_ : a0_1 ≤ 3 := of_decide_eq_true (by assumption); simp [ByteArray.size_extract, ByteArray.size_append] at hz_ ⊢; omega) | (have hz_ := c13; have hy_ : (⟨#[99, 119, 98]⟩ : ByteArray).size = 3 := rfl; have hx_ : a0_1 ≤ 3 := of_decide_eq_true (by assumption); simp [ByteArray.size_extract, ByteArray.size_append] at hz_ ⊢; omega))] <;> try rfl)
                rotate_left
                · simp only [Act.put, List.setIfInBounds_toArray, List.set_cons_zero, List.set_cons_succ, i64_w, i32_w]
                  rfl
                refine one_ (i := 12) (N := some 18) #[true, true, true, true, true, true, true, true, true, true, true, true, true, false, true, true, false, false, false] rfl rfl (one_of HT_.out (by kernel_rfl)) (by decide) (fun K hK => ?_)
                refine goes_ Tryd.func8 (by kernel_rfl) rfl #[.int .i64 a0_2] (by rfl) rfl rfl (by (try simp only [List.map_toArray, List.map_cons, List.map_nil]); first | done | rfl | (simp only [List.length_drop, List.length_take]; rfl)) ?_
                with_reducible refine (impl_FormatInt.calls a0_2 t132 _ A10.out).mono ?_
                rintro e w19 ⟨rfl, hb⟩
                refine ⟨_, rfl, ?_⟩
                have n0_ := Aside0.mk (blk_below (g := gb129) (o := .cells #[.int .i64 a0_0, .int .i64 a0_1, .int .i64 a0_2, .int .i64 a0_3] 27 (0, 0)) (by (with_reducible repeat (first | refine blk_drewN ?_ _ | refine blk_drew ?_ | refine blk_alloc ?_ _)); exact BK129.out) hb)
                have n1_ := Aside0.mk (below_step (by repeat (first | (with_reducible first | exact HB.out | apply below_alloc | apply pw_below_drewN | apply below_drew1 | refine below_set ?_ GE129.out) | exact HB.out)) hb)
                clear BK129
                clear HB
                have BK129 := n0_
                have HB := n1_
                clear n0_ n1_
                (try clear hb)
                (try clear hb2)
                (try clear hk)
                (try clear hi)
                refine hK.out _ _ ⟨(blk_cell BK129.out 0).trans rfl, (blk_cell BK129.out 1).trans rfl, (blk_cell BK129.out 2).trans rfl, (blk_cell BK129.out 3).trans rfl⟩ (fun hHeld => ?_)
                clear hK K
                refine norm_ (a' := ?_) ?_ ?_
                rotate_left
                · show Act.put _ (some 18) _ = _
                  simp only [Act.put, List.setIfInBounds_toArray, List.set_cons_zero, List.set_cons_succ, i64_w, i32_w]
                  rfl
                refine pure_ (i := 13) (N := some 19) (v := ?_) (a' := ?_) #[true, true, true, true, true, true, true, true, true, true, true, true, true, true, true, true, false, false, false] rfl rfl (any_of HT_.out (by kernel_rfl)) (fun _ _ _ h => h) (Or.inl ⟨by rfl, ?_⟩) ?_ ?_
                rotate_left
                · intro w'
                  go_simp
                  first | with_reducible rfl | (rw [if_neg (by first | (have hz_ := c9; have hy_ : (⟨#[99, 119, 98]⟩ : ByteArray).size = 3 := rfl; have hx_ : a0_1 ≤ 3 := of_decide_eq_true (by assumption); simp [ByteArray.size_extract, ByteArray.size_append] at hz_ ⊢; omega) | (have hz_ := c11; have hy_ : (⟨#[99, 119, 98]⟩ : ByteArray).size = 3 := rfl; have hx_ : a0_1 ≤ 3 := of_decide_eq_true (by assumption); simp [ByteArray.size_extract, ByteArray.size_append] at hz_ ⊢; omega) | (have hz_ := c13; have hy_ : (⟨#[99, 119, 98]⟩ : ByteArray).size = 3 := rfl; have hx_ : a0_1 ≤ 3 := of_decide_eq_true (by assumption); simp [ByteArray.size_extract, ByteArray.size_append] at hz_ ⊢; omega))] <;> try rfl)
                rotate_left
                · simp only [Act.put, List.setIfInBounds_toArray, List.set_cons_zero, List.set_cons_succ, i64_w, i32_w]
                  rfl
                refine one_ (i := 16) (N := some 22) #[true, true, true, true, true, true, true, true, true, true, true, true, true, true, true, true, true, false, false] rfl rfl (one_of HT_.out (by kernel_rfl)) (by decide) (fun K hK => ?_)
                refine goes_ Tryd.func8 (by kernel_rfl) rfl #[.int .i64 a0_3] (by rfl) rfl rfl (by (try simp only [List.map_toArray, List.map_cons, List.map_nil]); first | done | rfl | (simp only [List.length_drop, List.length_take]; rfl)) ?_
                with_reducible refine (impl_FormatInt.calls a0_3 t133 _ A12.out).mono ?_
                rintro e w20 ⟨rfl, hb⟩
                refine ⟨_, rfl, ?_⟩
                have n0_ := Aside0.mk (blk_below (g := gb129) (o := .cells #[.int .i64 a0_0, .int .i64 a0_1, .int .i64 a0_2, .int .i64 a0_3] 27 (0, 0)) (by (with_reducible repeat (first | refine blk_drewN ?_ _ | refine blk_drew ?_ | refine blk_alloc ?_ _)); exact BK129.out) hb)
                have n1_ := Aside0.mk (below_step (by repeat (first | (with_reducible first | exact HB.out | apply below_alloc | apply pw_below_drewN | apply below_drew1 | refine below_set ?_ GE129.out) | exact HB.out)) hb)
                clear BK129
                clear HB
                have BK129 := n0_
                have HB := n1_
                clear n0_ n1_
                (try clear hb)
                (try clear hb2)
                (try clear hk)
                (try clear hi)
                refine hK.out _ _ ⟨(blk_cell BK129.out 0).trans rfl, (blk_cell BK129.out 1).trans rfl, (blk_cell BK129.out 2).trans rfl, (blk_cell BK129.out 3).trans rfl⟩ (fun hHeld => ?_)
                clear hK K
                refine norm_ (a' := ?_) ?_ ?_
                rotate_left
                · show Act.put _ (some 22) _ = _
                  simp only [Act.put, List.setIfInBounds_toArray, List.set_cons_zero, List.set_cons_succ, i64_w, i32_w]
                  rfl
                refine pure_ (i := 17) (N := some 23) (v := ?_) (a' := ?_) #[true, true, true, true, true, true, true, true, true, true, true, true, true, true, true, true, true, true, false] rfl rfl (any_of HT_.out (by kernel_rfl)) (fun _ _ _ h => h) (Or.inl ⟨by rfl, ?_⟩) ?_ ?_
                rotate_left
                · intro w'
                  go_simp
                  first | with_reducible rfl | (rw [if_neg (by first | (have hz_ := c9; have hy_ : (⟨#[99, 119, 98]⟩ : ByteArray).size = 3 := rfl; have hx_ : a0_1 ≤ 3 := of_decide_eq_true (by assumption); simp [ByteArray.size_extract, ByteArray.size_append] at hz_ ⊢; omega) | (have hz_ := c11; have hy_ : (⟨#[99, 119, 98]⟩ : ByteArray).size = 3 := rfl; have hx_ : a0_1 ≤ 3 := of_decide_eq_true (by assumption); simp [ByteArray.size_extract, ByteArray.size_append] at hz_ ⊢; omega) | (have hz_ := c13; have hy_ : (⟨#[99, 119, 98]⟩ : ByteArray).size = 3 := rfl; have hx_ : a0_1 ≤ 3 := of_decide_eq_true (by assumption); simp [ByteArray.size_extract, ByteArray.size_append] at hz_ ⊢; omega))] <;> try rfl)
                rotate_left
                · simp only [Act.put, List.setIfInBounds_toArray, List.set_cons_zero, List.set_cons_succ, i64_w, i32_w]
                  rfl
                refine pure_ (i := 18) (N := some 2) (v := ?_) (a' := ?_) #[true, true, true, true, true, true, true, true, true, true, true, true, true, true, true, true, true, true, true] rfl rfl (any_of HT_.out (by kernel_rfl)) (fun _ _ _ h => h) (Or.inl ⟨by rfl, ?_⟩) ?_ ?_
                rotate_left
                · intro w'
                  go_simp
                  first | with_reducible rfl | (rw [if_neg (by first | (have hz_ := c9; have hy_ : (⟨#[99, 119, 98]⟩ : ByteArray).size = 3 := rfl; have hx_ : a0_1 ≤ 3 := of_decide_eq_true (by assumption); simp [ByteArray.size_extract, ByteArray.size_append] at hz_ ⊢; omega) | (have hz_ := c11; have hy_ : (⟨#[99, 119, 98]⟩ : ByteArray).size = 3 := rfl; have hx_ : a0_1 ≤ 3 := of_decide_eq_true (by assumption); simp [ByteArray.size_extract, ByteArray.size_append] at hz_ ⊢; omega) | (have hz_ := c13; have hy_ : (⟨#[99, 119, 98]⟩ : ByteArray).size = 3 := rfl; have hx_ : a0_1 ≤ 3 := of_decide_eq_true (by assumption); simp [ByteArray.size_extract, ByteArray.size_append] at hz_ ⊢; omega))] <;> try rfl)
                rotate_left
                · simp only [Act.put, List.setIfInBounds_toArray, List.set_cons_zero, List.set_cons_succ, i64_w, i32_w]
                  rfl
                refine done_ (done_of HT_.out (by kernel_rfl)) ?_
                try go_wp2
                go_ret
                exact ⟨by first | rfl | (simp [errW_none, errW_some] <;> rfl) | (simp only [← hji5]; first | rfl | (simp [errW_none, errW_some] <;> rfl)) | (simp [*, errW_none, errW_some] <;> rfl), by repeat (first | (with_reducible first | exact HB.out | apply below_alloc | apply pw_below_drewN | apply below_drew1 | refine below_set ?_ GE129.out) | exact HB.out)⟩
              · rw [if_neg c13] at H
                exact absurd H (by simp)
            · rw [if_neg c11] at H
              exact absurd H (by simp)
          · rw [if_neg c9] at H
            exact absurd H (by simp)
        · rw [if_neg c8] at H
          exact absurd H (by simp)
      · rw [if_neg c7] at H
        exact absurd H (by simp)
    · rw [if_neg c6] at H
      exact absurd H (by simp)
  · replace c3 := Bool.eq_false_iff.mpr c3
    subst c3
    have H1 : (some (⟨#[]⟩ : ByteArray)) = some r := by rw [if_neg (show ¬ (false = true) by decide)] at H; exact H
    clear H
    have H := H1
    clear H1
    obtain rfl := Option.some.inj H
    go_enter Tryd.func11, Tryd.ntmps11
    go_wp2_with (first | ((with_reducible refine gate_dst (N := 1) rfl ?_); refine box_event ?hg (N := 1) ?hd (cs := #[.int .i64 a0_0, .int .i64 a0_1, .int .i64 a0_2, .int .i64 a0_3]) (t := 27) ?hr ?_; (case hd => rfl); (case hg => rfl); (case hr => first | (go_simp; done) | (go_simp; rfl)); intro gb129 hg w21 hbox hb; have n0_ := Aside0.mk (below_step (by repeat (first | (with_reducible first | exact HB.out | apply below_alloc | apply pw_below_drewN | apply below_drew1) | exact HB.out)) hb); have n1_ := Aside0.mk (hbox); have n2_ := Aside0.mk ((by rw [hg]; exact (below_size (by repeat (first | (with_reducible first | exact HB.out | apply below_alloc | apply pw_below_drewN | apply below_drew1) | exact HB.out))) : w.heap.size ≤ gb129)); have n3_ := Aside0.mk ((by rw [hg]; exact (below_size (by repeat (first | (with_reducible first | exact HB.out | apply below_alloc | apply pw_below_drewN | apply below_drew1) | exact HB.out))) : w.heap.size ≤ gb129)); clear HB; have HB := n0_; have BK129 := n1_; have GW129 := n2_; have GE129 := n3_; clear n0_ n1_ n2_ n3_; clear hb hbox hg; have hcz22_0 : w21.cell? ⟨gb129, 0, none⟩ = some (.int .i64 a0_0) := (blk_cell BK129.out 0).trans rfl; have hcz22_1 : w21.cell? ⟨gb129, 1, none⟩ = some (.int .i64 a0_1) := (blk_cell BK129.out 1).trans rfl; have hcz22_2 : w21.cell? ⟨gb129, 2, none⟩ = some (.int .i64 a0_2) := (blk_cell BK129.out 2).trans rfl; have hcz22_3 : w21.cell? ⟨gb129, 3, none⟩ = some (.int .i64 a0_3) := (blk_cell BK129.out 3).trans rfl; have hfz22_0 := blk_frozen BK129.out 0; have hfz22_1 := blk_frozen BK129.out 1; have hfz22_2 := blk_frozen BK129.out 2; have hfz22_3 := blk_frozen BK129.out 3) | ((with_reducible refine gate_callee (f := 14) rfl ?_); refine goesL_ (some 4) rfl rfl Tryd.func14 (by kernel_rfl) rfl #[.agg #[.int .i64 a0_0, .int .i64 a0_1, .int .i64 a0_2, .int .i64 a0_3]] rfl (by (try simp only [List.map_toArray, List.map_cons, List.map_nil]); first | done | rfl | (simp only [List.length_drop, List.length_take]; rfl)) ?_; (with_reducible refine (impl_IsPath.calls a0_0 a0_1 a0_2 a0_3 false _ A2.out).mono ?_); rintro e w23 ⟨rfl, hb⟩; refine ⟨_, rfl, ?_⟩; have n0_ := Aside0.mk (blk_below (g := gb129) (o := .cells #[.int .i64 a0_0, .int .i64 a0_1, .int .i64 a0_2, .int .i64 a0_3] 27 (0, 0)) (by (with_reducible repeat (first | refine blk_drewN ?_ _ | refine blk_drew ?_ | refine blk_alloc ?_ _)); exact BK129.out) hb); have n1_ := Aside0.mk (below_step (by repeat (first | (with_reducible first | exact HB.out | apply below_alloc | apply pw_below_drewN | apply below_drew1 | refine below_set ?_ GE129.out) | exact HB.out)) hb); clear BK129; clear HB; have BK129 := n0_; have HB := n1_; clear n0_ n1_; (try clear hb); (try clear hb2); (try clear hk); (try clear hi)))
    go_ret
    exact ⟨by first | rfl | (simp [errW_none, errW_some] <;> rfl) | (simp [*, errW_none, errW_some] <;> rfl), by repeat (first | (with_reducible first | exact HB.out | apply below_alloc | apply pw_below_drewN | apply below_drew1 | refine below_set ?_ GE129.out) | exact HB.out)⟩

/-! ### laws_FnExactPathText: function 4 -/
def laws_FnExactPathText.f (k : Nat) (a0_0 : Int) (a0_1 : Int) (a0_2 : Int) (a0_3 : Int) : Option (Bool) := (laws_toPath.f a0_0 a0_1 a0_2 a0_3).bind fun bt135 => ((spec_PathText.f k bt135.1 bt135.2.1 bt135.2.2.1 bt135.2.2.2).bind fun t139 => ((laws_toPath.f a0_0 a0_1 a0_2 a0_3).bind fun bt140 => ((impl_PathText.f bt140.1 bt140.2.1 bt140.2.2.1 bt140.2.2.2).bind fun t144 => (if t144.toList = t139.toList then (some true) else (some false)))))
theorem laws_FnExactPathText.mono : ∀ a0 a1 a2 a3 k, LeO (laws_FnExactPathText.f k a0 a1 a2 a3) (laws_FnExactPathText.f (k + 1) a0 a1 a2 a3) := by
  intro a0 a1 a2 a3 k
  unfold laws_FnExactPathText.f
  repeat' first
      | (with_reducible exact spec_PathText.mono _ _ _ _ _)
      | (with_reducible exact LeO.refl _)
      | (with_reducible exact LeO.none _)
      | (with_reducible refine LeO.ite ?_ ?_)
      | (with_reducible refine LeO.bind ?_ (fun _ => ?_))
      | exact spec_PathText.mono _ _ _ _ _
      | exact LeO.none _
      | refine LeO.ite ?_ ?_
      | refine LeO.bind ?_ (fun _ => ?_)
set_option maxHeartbeats 8000000 in
set_option maxRecDepth 100000 in
theorem laws_FnExactPathText.calls (k : Nat) (a0_0 : Int) (a0_1 : Int) (a0_2 : Int) (a0_3 : Int) (r : Bool) (w : World) (h : laws_FnExactPathText.f k a0_0 a0_1 a0_2 a0_3 = some r) :
    Calls Tryd.prog 4 #[.agg #[.int .i64 a0_0, .int .i64 a0_1, .int .i64 a0_2, .int .i64 a0_3]] w fun e w' => e = .returned (.bool r) ∧ Below w.heap.size w w' := by
  have hu25 := Tryd.underlying25
  have HB := Aside0.mk (Below.refl w.heap.size w)
  have H : ((laws_toPath.f a0_0 a0_1 a0_2 a0_3).bind fun bt135 => ((spec_PathText.f k bt135.1 bt135.2.1 bt135.2.2.1 bt135.2.2.2).bind fun t139 => ((laws_toPath.f a0_0 a0_1 a0_2 a0_3).bind fun bt140 => ((impl_PathText.f bt140.1 bt140.2.1 bt140.2.2.1 bt140.2.2.2).bind fun t144 => (if t144.toList = t139.toList then (some true) else (some false)))))) = some r := h
  clear h
  replace H := Option.bind_eq_some_iff.mp H
  obtain ⟨⟨t135, t136, t137, t138⟩, A20, H⟩ := H
  replace H : ((spec_PathText.f k t135 t136 t137 t138).bind fun t139 => ((laws_toPath.f a0_0 a0_1 a0_2 a0_3).bind fun bt140 => ((impl_PathText.f bt140.1 bt140.2.1 bt140.2.2.1 bt140.2.2.2).bind fun t144 => (if t144.toList = t139.toList then (some true) else (some false))))) = some r := H
  have A2 := Aside0.mk A20
  clear A20
  replace H := Option.bind_eq_some_iff.mp H
  obtain ⟨t139, A30, H⟩ := H
  replace H : ((laws_toPath.f a0_0 a0_1 a0_2 a0_3).bind fun bt140 => ((impl_PathText.f bt140.1 bt140.2.1 bt140.2.2.1 bt140.2.2.2).bind fun t144 => (if t144.toList = t139.toList then (some true) else (some false)))) = some r := H
  have A3 := Aside0.mk A30
  clear A30
  replace H := Option.bind_eq_some_iff.mp H
  obtain ⟨⟨t140, t141, t142, t143⟩, A40, H⟩ := H
  replace H : ((impl_PathText.f t140 t141 t142 t143).bind fun t144 => (if t144.toList = t139.toList then (some true) else (some false))) = some r := H
  have A4 := Aside0.mk A40
  clear A40
  replace H := Option.bind_eq_some_iff.mp H
  obtain ⟨t144, A50, H⟩ := H
  replace H : (if t144.toList = t139.toList then (some true) else (some false)) = some r := H
  have A5 := Aside0.mk A50
  clear A50
  by_cases c6 : t144.toList = t139.toList
  · rw [if_pos c6] at H
    have c6b0 : (t144.toList == t139.toList) = true := beq_iff_eq.mpr c6
    have c6b1 : (t144.toList != t139.toList) = false := bne_eq_false_iff_eq.mpr c6
    clear c6
    obtain rfl := Option.some.inj H
    go_enter Tryd.func4, Tryd.ntmps4
    go_wp2_with (first | ((with_reducible refine gate_dst (N := 1) rfl ?_); refine box_event ?hg (N := 1) ?hd (cs := #[.int .i64 a0_0, .int .i64 a0_1, .int .i64 a0_2, .int .i64 a0_3]) (t := 25) ?hr ?_; (case hd => rfl); (case hg => rfl); (case hr => first | (go_simp; done) | (go_simp; rfl)); intro gb134 hg w7 hbox hb; have n0_ := Aside0.mk (below_step (by repeat (first | (with_reducible first | exact HB.out | apply below_alloc | apply pw_below_drewN | apply below_drew1) | exact HB.out)) hb); have n1_ := Aside0.mk (hbox); have n2_ := Aside0.mk ((by rw [hg]; exact (below_size (by repeat (first | (with_reducible first | exact HB.out | apply below_alloc | apply pw_below_drewN | apply below_drew1) | exact HB.out))) : w.heap.size ≤ gb134)); have n3_ := Aside0.mk ((by rw [hg]; exact (below_size (by repeat (first | (with_reducible first | exact HB.out | apply below_alloc | apply pw_below_drewN | apply below_drew1) | exact HB.out))) : w.heap.size ≤ gb134)); clear HB; have HB := n0_; have BK134 := n1_; have GW134 := n2_; have GE134 := n3_; clear n0_ n1_ n2_ n3_; clear hb hbox hg; have hcz8_0 : w7.cell? ⟨gb134, 0, none⟩ = some (.int .i64 a0_0) := (blk_cell BK134.out 0).trans rfl; have hcz8_1 : w7.cell? ⟨gb134, 1, none⟩ = some (.int .i64 a0_1) := (blk_cell BK134.out 1).trans rfl; have hcz8_2 : w7.cell? ⟨gb134, 2, none⟩ = some (.int .i64 a0_2) := (blk_cell BK134.out 2).trans rfl; have hcz8_3 : w7.cell? ⟨gb134, 3, none⟩ = some (.int .i64 a0_3) := (blk_cell BK134.out 3).trans rfl; have hfz8_0 := blk_frozen BK134.out 0; have hfz8_1 := blk_frozen BK134.out 1; have hfz8_2 := blk_frozen BK134.out 2; have hfz8_3 := blk_frozen BK134.out 3) | ((with_reducible refine gate_callee (f := 10) rfl ?_); refine goesL_ (some 6) rfl rfl Tryd.func10 (by kernel_rfl) rfl #[.agg #[.int .i64 a0_0, .int .i64 a0_1, .int .i64 a0_2, .int .i64 a0_3]] rfl (by (try simp only [List.map_toArray, List.map_cons, List.map_nil]); first | done | rfl | (simp only [List.length_drop, List.length_take]; rfl)) ?_; (with_reducible refine (laws_toPath.calls a0_0 a0_1 a0_2 a0_3 t135 t136 t137 t138 _ A2.out).mono ?_); rintro e w9 ⟨rfl, hb⟩; refine ⟨_, rfl, ?_⟩; have n0_ := Aside0.mk (blk_below (g := gb134) (o := .cells #[.int .i64 a0_0, .int .i64 a0_1, .int .i64 a0_2, .int .i64 a0_3] 25 (0, 0)) (by (with_reducible repeat (first | refine blk_drewN ?_ _ | refine blk_drew ?_ | refine blk_alloc ?_ _)); exact BK134.out) hb); have n1_ := Aside0.mk (below_step (by repeat (first | (with_reducible first | exact HB.out | apply below_alloc | apply pw_below_drewN | apply below_drew1 | refine below_set ?_ GE134.out) | exact HB.out)) hb); clear BK134; clear HB; have BK134 := n0_; have HB := n1_; clear n0_ n1_; (try clear hb); (try clear hb2); (try clear hk); (try clear hi)) | ((with_reducible refine gate_callee (f := 9) rfl ?_); refine goesL_ (some 7) rfl rfl Tryd.func9 (by kernel_rfl) rfl #[.agg #[.int .i64 t135, .int .i64 t136, .int .i64 t137, .int .i64 t138]] rfl (by (try simp only [List.map_toArray, List.map_cons, List.map_nil]); first | done | rfl | (simp only [List.length_drop, List.length_take]; rfl)) ?_; (with_reducible refine (spec_PathText.calls k t135 t136 t137 t138 t139 _ A3.out).mono ?_); rintro e w10 ⟨rfl, hb⟩; refine ⟨_, rfl, ?_⟩; have n0_ := Aside0.mk (blk_below (g := gb134) (o := .cells #[.int .i64 a0_0, .int .i64 a0_1, .int .i64 a0_2, .int .i64 a0_3] 25 (0, 0)) (by (with_reducible repeat (first | refine blk_drewN ?_ _ | refine blk_drew ?_ | refine blk_alloc ?_ _)); exact BK134.out) hb); have n1_ := Aside0.mk (below_step (by repeat (first | (with_reducible first | exact HB.out | apply below_alloc | apply pw_below_drewN | apply below_drew1 | refine below_set ?_ GE134.out) | exact HB.out)) hb); clear BK134; clear HB; have BK134 := n0_; have HB := n1_; clear n0_ n1_; (try clear hb); (try clear hb2); (try clear hk); (try clear hi); have hcz11_0 : w10.cell? ⟨gb134, 0, none⟩ = some (.int .i64 a0_0) := (blk_cell BK134.out 0).trans rfl; have hcz11_1 : w10.cell? ⟨gb134, 1, none⟩ = some (.int .i64 a0_1) := (blk_cell BK134.out 1).trans rfl; have hcz11_2 : w10.cell? ⟨gb134, 2, none⟩ = some (.int .i64 a0_2) := (blk_cell BK134.out 2).trans rfl; have hcz11_3 : w10.cell? ⟨gb134, 3, none⟩ = some (.int .i64 a0_3) := (blk_cell BK134.out 3).trans rfl; have hfz11_0 := blk_frozen BK134.out 0; have hfz11_1 := blk_frozen BK134.out 1; have hfz11_2 := blk_frozen BK134.out 2; have hfz11_3 := blk_frozen BK134.out 3) | ((with_reducible refine gate_callee (f := 10) rfl ?_); refine goesL_ (some 9) rfl rfl Tryd.func10 (by kernel_rfl) rfl #[.agg #[.int .i64 a0_0, .int .i64 a0_1, .int .i64 a0_2, .int .i64 a0_3]] rfl (by (try simp only [List.map_toArray, List.map_cons, List.map_nil]); first | done | rfl | (simp only [List.length_drop, List.length_take]; rfl)) ?_; (with_reducible refine (laws_toPath.calls a0_0 a0_1 a0_2 a0_3 t140 t141 t142 t143 _ A4.out).mono ?_); rintro e w12 ⟨rfl, hb⟩; refine ⟨_, rfl, ?_⟩; have n0_ := Aside0.mk (blk_below (g := gb134) (o := .cells #[.int .i64 a0_0, .int .i64 a0_1, .int .i64 a0_2, .int .i64 a0_3] 25 (0, 0)) (by (with_reducible repeat (first | refine blk_drewN ?_ _ | refine blk_drew ?_ | refine blk_alloc ?_ _)); exact BK134.out) hb); have n1_ := Aside0.mk (below_step (by repeat (first | (with_reducible first | exact HB.out | apply below_alloc | apply pw_below_drewN | apply below_drew1 | refine below_set ?_ GE134.out) | exact HB.out)) hb); clear BK134; clear HB; have BK134 := n0_; have HB := n1_; clear n0_ n1_; (try clear hb); (try clear hb2); (try clear hk); (try clear hi)) | ((with_reducible refine gate_callee (f := 11) rfl ?_); refine goesL_ (some 10) rfl rfl Tryd.func11 (by kernel_rfl) rfl #[.agg #[.int .i64 t140, .int .i64 t141, .int .i64 t142, .int .i64 t143]] rfl (by (try simp only [List.map_toArray, List.map_cons, List.map_nil]); first | done | rfl | (simp only [List.length_drop, List.length_take]; rfl)) ?_; (with_reducible refine (impl_PathText.calls t140 t141 t142 t143 t144 _ A5.out).mono ?_); rintro e w13 ⟨rfl, hb⟩; refine ⟨_, rfl, ?_⟩; have n0_ := Aside0.mk (blk_below (g := gb134) (o := .cells #[.int .i64 a0_0, .int .i64 a0_1, .int .i64 a0_2, .int .i64 a0_3] 25 (0, 0)) (by (with_reducible repeat (first | refine blk_drewN ?_ _ | refine blk_drew ?_ | refine blk_alloc ?_ _)); exact BK134.out) hb); have n1_ := Aside0.mk (below_step (by repeat (first | (with_reducible first | exact HB.out | apply below_alloc | apply pw_below_drewN | apply below_drew1 | refine below_set ?_ GE134.out) | exact HB.out)) hb); clear BK134; clear HB; have BK134 := n0_; have HB := n1_; clear n0_ n1_; (try clear hb); (try clear hb2); (try clear hk); (try clear hi)))
    go_ret
    exact ⟨by first | rfl | (simp [errW_none, errW_some] <;> rfl) | (simp [*, errW_none, errW_some] <;> rfl), by repeat (first | (with_reducible first | exact HB.out | apply below_alloc | apply pw_below_drewN | apply below_drew1 | refine below_set ?_ GE134.out) | exact HB.out)⟩
  · rw [if_neg c6] at H
    have c6b0 : (t144.toList == t139.toList) = false := beq_eq_false_iff_ne.mpr c6
    have c6b1 : (t144.toList != t139.toList) = true := bne_iff_ne.mpr c6
    obtain rfl := Option.some.inj H
    go_enter Tryd.func4, Tryd.ntmps4
    go_wp2_with (first | ((with_reducible refine gate_dst (N := 1) rfl ?_); refine box_event ?hg (N := 1) ?hd (cs := #[.int .i64 a0_0, .int .i64 a0_1, .int .i64 a0_2, .int .i64 a0_3]) (t := 25) ?hr ?_; (case hd => rfl); (case hg => rfl); (case hr => first | (go_simp; done) | (go_simp; rfl)); intro gb134 hg w14 hbox hb; have n0_ := Aside0.mk (below_step (by repeat (first | (with_reducible first | exact HB.out | apply below_alloc | apply pw_below_drewN | apply below_drew1) | exact HB.out)) hb); have n1_ := Aside0.mk (hbox); have n2_ := Aside0.mk ((by rw [hg]; exact (below_size (by repeat (first | (with_reducible first | exact HB.out | apply below_alloc | apply pw_below_drewN | apply below_drew1) | exact HB.out))) : w.heap.size ≤ gb134)); have n3_ := Aside0.mk ((by rw [hg]; exact (below_size (by repeat (first | (with_reducible first | exact HB.out | apply below_alloc | apply pw_below_drewN | apply below_drew1) | exact HB.out))) : w.heap.size ≤ gb134)); clear HB; have HB := n0_; have BK134 := n1_; have GW134 := n2_; have GE134 := n3_; clear n0_ n1_ n2_ n3_; clear hb hbox hg; have hcz15_0 : w14.cell? ⟨gb134, 0, none⟩ = some (.int .i64 a0_0) := (blk_cell BK134.out 0).trans rfl; have hcz15_1 : w14.cell? ⟨gb134, 1, none⟩ = some (.int .i64 a0_1) := (blk_cell BK134.out 1).trans rfl; have hcz15_2 : w14.cell? ⟨gb134, 2, none⟩ = some (.int .i64 a0_2) := (blk_cell BK134.out 2).trans rfl; have hcz15_3 : w14.cell? ⟨gb134, 3, none⟩ = some (.int .i64 a0_3) := (blk_cell BK134.out 3).trans rfl; have hfz15_0 := blk_frozen BK134.out 0; have hfz15_1 := blk_frozen BK134.out 1; have hfz15_2 := blk_frozen BK134.out 2; have hfz15_3 := blk_frozen BK134.out 3) | ((with_reducible refine gate_callee (f := 10) rfl ?_); refine goesL_ (some 6) rfl rfl Tryd.func10 (by kernel_rfl) rfl #[.agg #[.int .i64 a0_0, .int .i64 a0_1, .int .i64 a0_2, .int .i64 a0_3]] rfl (by (try simp only [List.map_toArray, List.map_cons, List.map_nil]); first | done | rfl | (simp only [List.length_drop, List.length_take]; rfl)) ?_; (with_reducible refine (laws_toPath.calls a0_0 a0_1 a0_2 a0_3 t135 t136 t137 t138 _ A2.out).mono ?_); rintro e w16 ⟨rfl, hb⟩; refine ⟨_, rfl, ?_⟩; have n0_ := Aside0.mk (blk_below (g := gb134) (o := .cells #[.int .i64 a0_0, .int .i64 a0_1, .int .i64 a0_2, .int .i64 a0_3] 25 (0, 0)) (by (with_reducible repeat (first | refine blk_drewN ?_ _ | refine blk_drew ?_ | refine blk_alloc ?_ _)); exact BK134.out) hb); have n1_ := Aside0.mk (below_step (by repeat (first | (with_reducible first | exact HB.out | apply below_alloc | apply pw_below_drewN | apply below_drew1 | refine below_set ?_ GE134.out) | exact HB.out)) hb); clear BK134; clear HB; have BK134 := n0_; have HB := n1_; clear n0_ n1_; (try clear hb); (try clear hb2); (try clear hk); (try clear hi)) | ((with_reducible refine gate_callee (f := 9) rfl ?_); refine goesL_ (some 7) rfl rfl Tryd.func9 (by kernel_rfl) rfl #[.agg #[.int .i64 t135, .int .i64 t136, .int .i64 t137, .int .i64 t138]] rfl (by (try simp only [List.map_toArray, List.map_cons, List.map_nil]); first | done | rfl | (simp only [List.length_drop, List.length_take]; rfl)) ?_; (with_reducible refine (spec_PathText.calls k t135 t136 t137 t138 t139 _ A3.out).mono ?_); rintro e w17 ⟨rfl, hb⟩; refine ⟨_, rfl, ?_⟩; have n0_ := Aside0.mk (blk_below (g := gb134) (o := .cells #[.int .i64 a0_0, .int .i64 a0_1, .int .i64 a0_2, .int .i64 a0_3] 25 (0, 0)) (by (with_reducible repeat (first | refine blk_drewN ?_ _ | refine blk_drew ?_ | refine blk_alloc ?_ _)); exact BK134.out) hb); have n1_ := Aside0.mk (below_step (by repeat (first | (with_reducible first | exact HB.out | apply below_alloc | apply pw_below_drewN | apply below_drew1 | refine below_set ?_ GE134.out) | exact HB.out)) hb); clear BK134; clear HB; have BK134 := n0_; have HB := n1_; clear n0_ n1_; (try clear hb); (try clear hb2); (try clear hk); (try clear hi); have hcz18_0 : w17.cell? ⟨gb134, 0, none⟩ = some (.int .i64 a0_0) := (blk_cell BK134.out 0).trans rfl; have hcz18_1 : w17.cell? ⟨gb134, 1, none⟩ = some (.int .i64 a0_1) := (blk_cell BK134.out 1).trans rfl; have hcz18_2 : w17.cell? ⟨gb134, 2, none⟩ = some (.int .i64 a0_2) := (blk_cell BK134.out 2).trans rfl; have hcz18_3 : w17.cell? ⟨gb134, 3, none⟩ = some (.int .i64 a0_3) := (blk_cell BK134.out 3).trans rfl; have hfz18_0 := blk_frozen BK134.out 0; have hfz18_1 := blk_frozen BK134.out 1; have hfz18_2 := blk_frozen BK134.out 2; have hfz18_3 := blk_frozen BK134.out 3) | ((with_reducible refine gate_callee (f := 10) rfl ?_); refine goesL_ (some 9) rfl rfl Tryd.func10 (by kernel_rfl) rfl #[.agg #[.int .i64 a0_0, .int .i64 a0_1, .int .i64 a0_2, .int .i64 a0_3]] rfl (by (try simp only [List.map_toArray, List.map_cons, List.map_nil]); first | done | rfl | (simp only [List.length_drop, List.length_take]; rfl)) ?_; (with_reducible refine (laws_toPath.calls a0_0 a0_1 a0_2 a0_3 t140 t141 t142 t143 _ A4.out).mono ?_); rintro e w19 ⟨rfl, hb⟩; refine ⟨_, rfl, ?_⟩; have n0_ := Aside0.mk (blk_below (g := gb134) (o := .cells #[.int .i64 a0_0, .int .i64 a0_1, .int .i64 a0_2, .int .i64 a0_3] 25 (0, 0)) (by (with_reducible repeat (first | refine blk_drewN ?_ _ | refine blk_drew ?_ | refine blk_alloc ?_ _)); exact BK134.out) hb); have n1_ := Aside0.mk (below_step (by repeat (first | (with_reducible first | exact HB.out | apply below_alloc | apply pw_below_drewN | apply below_drew1 | refine below_set ?_ GE134.out) | exact HB.out)) hb); clear BK134; clear HB; have BK134 := n0_; have HB := n1_; clear n0_ n1_; (try clear hb); (try clear hb2); (try clear hk); (try clear hi)) | ((with_reducible refine gate_callee (f := 11) rfl ?_); refine goesL_ (some 10) rfl rfl Tryd.func11 (by kernel_rfl) rfl #[.agg #[.int .i64 t140, .int .i64 t141, .int .i64 t142, .int .i64 t143]] rfl (by (try simp only [List.map_toArray, List.map_cons, List.map_nil]); first | done | rfl | (simp only [List.length_drop, List.length_take]; rfl)) ?_; (with_reducible refine (impl_PathText.calls t140 t141 t142 t143 t144 _ A5.out).mono ?_); rintro e w20 ⟨rfl, hb⟩; refine ⟨_, rfl, ?_⟩; have n0_ := Aside0.mk (blk_below (g := gb134) (o := .cells #[.int .i64 a0_0, .int .i64 a0_1, .int .i64 a0_2, .int .i64 a0_3] 25 (0, 0)) (by (with_reducible repeat (first | refine blk_drewN ?_ _ | refine blk_drew ?_ | refine blk_alloc ?_ _)); exact BK134.out) hb); have n1_ := Aside0.mk (below_step (by repeat (first | (with_reducible first | exact HB.out | apply below_alloc | apply pw_below_drewN | apply below_drew1 | refine below_set ?_ GE134.out) | exact HB.out)) hb); clear BK134; clear HB; have BK134 := n0_; have HB := n1_; clear n0_ n1_; (try clear hb); (try clear hb2); (try clear hk); (try clear hi)))
    go_ret
    exact ⟨by first | rfl | (simp [errW_none, errW_some] <;> rfl) | (simp [*, errW_none, errW_some] <;> rfl), by repeat (first | (with_reducible first | exact HB.out | apply below_alloc | apply pw_below_drewN | apply below_drew1 | refine below_set ?_ GE134.out) | exact HB.out)⟩

end Go.Proofs.YtfglfocjoffjpaaDoor.PFnExactPathText
