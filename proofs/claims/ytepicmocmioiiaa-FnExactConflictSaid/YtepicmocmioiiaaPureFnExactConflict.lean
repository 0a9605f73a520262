/- What the row of FnExactConflict leans on: for every two paths the law answers true; no condition. -/
import Derived.Test.YtepicmocmioiiaaPFnExactConflictx5
set_option linter.unusedVariables false
set_option linter.unusedSimpArgs false
namespace Go.Proofs.Ytepicmocmioiiaa.Pure
open Go.RowKit Go.Proofs.Ytepicmocmioiiaa.PFnExactConflict Go.Proofs.YtepicmocmioiiaaW.PrintWords Go.Proofs.YtepicmocmioiiaaW.PrintLast

theorem in1 (a b c : Int) : spec_l1In.f a b c = some (decide (b ≤ a ∧ a ≤ c)) := by
  unfold spec_l1In.f
  by_cases h : a ≥ b
  · rw [if_pos h]; congr 1; simp only [decide_eq_decide]; omega
  · rw [if_neg h]; congr 1; symm; simp only [decide_eq_false_iff_not]; omega

theorem inr (a b c : Int) : impl_InRange.f a b c = some (decide (b ≤ a ∧ a ≤ c)) := by
  unfold impl_InRange.f
  by_cases h : b ≤ a
  · rw [if_pos h]; congr 1; simp only [decide_eq_decide]; omega
  · rw [if_neg h]; congr 1; symm; simp only [decide_eq_false_iff_not]; omega

def isPathV (a b c d : Int) : Bool := decide (1 ≤ a ∧ a ≤ 20) && (decide (1 ≤ b ∧ b ≤ 3) && (decide (0 ≤ c ∧ c ≤ 3) && (decide (0 ≤ d ∧ d ≤ 3) && ((c == d) == (b == 2)))))
theorem sIsPath (a b c d : Int) : spec_IsPath.f a b c d = some (isPathV a b c d) := by
  unfold spec_IsPath.f isPathV
  simp only [in1, Option.bind_some]
  generalize decide (1 ≤ a ∧ a ≤ 20) = p1
  generalize decide (1 ≤ b ∧ b ≤ 3) = p2
  generalize decide (0 ≤ c ∧ c ≤ 3) = p3
  generalize decide (0 ≤ d ∧ d ≤ 3) = p4
  cases p1 <;> cases p2 <;> cases p3 <;> cases p4 <;> rfl
theorem iIsPath (a b c d : Int) : impl_IsPath.f a b c d = some (isPathV a b c d) := by
  unfold impl_IsPath.f isPathV
  simp only [inr, Option.bind_some]
  generalize decide (1 ≤ a ∧ a ≤ 20) = p1
  generalize decide (1 ≤ b ∧ b ≤ 3) = p2
  generalize decide (0 ≤ c ∧ c ≤ 3) = p3
  generalize decide (0 ≤ d ∧ d ≤ 3) = p4
  cases p1 <;> cases p2 <;> cases p3 <;> cases p4 <;> rfl
theorem isPathV_iff (a b c d : Int) : isPathV a b c d = true ↔ (1 ≤ a ∧ a ≤ 20) ∧ (1 ≤ b ∧ b ≤ 3) ∧ (0 ≤ c ∧ c ≤ 3) ∧ (0 ≤ d ∧ d ≤ 3) ∧ (c = d ↔ b = 2) := by
  unfold isPathV
  simp only [Bool.and_eq_true, decide_eq_true_eq, beq_iff_eq]
  have : ((c == d) = (b == 2)) ↔ (c = d ↔ b = 2) := by
    rw [Bool.eq_iff_iff]; simp only [beq_iff_eq]
  rw [this]

/-- The four numbers are different, from 0 to 7. -/
def ILv (a b c d : Int) : Prop := (0 ≤ a ∧ a ≤ 7) ∧ (0 ≤ b ∧ b ≤ 7) ∧ (0 ≤ c ∧ c ≤ 7) ∧ (0 ≤ d ∧ d ≤ 7) ∧ a ≠ b ∧ a ≠ c ∧ a ≠ d ∧ b ≠ c ∧ b ≠ d ∧ c ≠ d
theorem il_rd (a b c d : Int) : rd [a, b, c, d] 0 = a ∧ rd [a, b, c, d] 1 = b ∧ rd [a, b, c, d] 2 = c ∧ rd [a, b, c, d] 3 = d := ⟨rfl, rfl, rfl, rfl⟩
theorem il_w (i : Int) (h0 : 0 ≤ i) (h1 : i < 4) : wrap64 (i + 1) = i + 1 := by unfold wrap64; omega
theorem il_S (k : Nat) (a b c d : Int) (l : List Int) (i : Int) (h1 : i < 4) : spec_Interleave.l0 (k + 1) a b c d l i = spec_Interleave.l1 k a b c d l i 0 := by
  simp only [spec_Interleave.l0]; rw [if_pos h1]
theorem il_T (k : Nat) (a b c d : Int) (l : List Int) (hl : l.length = 4) (i j : Int) (h0 : 0 ≤ j) (h1 : j < i) (h2 : i < 4) :
    spec_Interleave.l1 (k + 1) a b c d l i j = if rd l i = rd l j then some false else spec_Interleave.l1 k a b c d l i (j + 1) := by
  simp only [spec_Interleave.l1]; rw [if_pos h1, if_pos (by omega), if_pos (by omega), if_pos h0, if_pos (by omega), il_w j h0 (by omega)]
theorem il_E (k : Nat) (a b c d : Int) (l : List Int) (hl : l.length = 4) (i : Int) (h0 : 0 ≤ i) (h2 : i < 4) :
    spec_Interleave.l1 (k + 1) a b c d l i i = if 0 ≤ rd l i ∧ rd l i ≤ 7 then spec_Interleave.l0 k a b c d l (i + 1) else some false := by
  simp only [spec_Interleave.l1]; rw [if_neg (by omega), if_pos (by omega), if_pos (by omega), in1]
  simp only [Option.bind_some, decide_eq_true_eq, il_w i h0 h2]
theorem il_spec_no (a b c d : Int) (h : ¬ ILv a b c d) : spec_Interleave.f 40 a b c d = some false := by
  obtain ⟨r0, r1, r2, r3⟩ := il_rd a b c d
  have hl : [a, b, c, d].length = 4 := rfl
  unfold spec_Interleave.f
  rw [il_S _ _ _ _ _ _ _ (by omega), il_E _ _ _ _ _ _ hl _ (by omega) (by omega), r0]
  split
  · rw [il_S _ _ _ _ _ _ _ (by omega), il_T _ _ _ _ _ _ hl _ _ (by omega) (by omega) (by omega), Int.zero_add, r0, r1]
    split
    · rfl
    · rw [il_E _ _ _ _ _ _ hl _ (by omega) (by omega), r1]
      split
      · rw [il_S _ _ _ _ _ _ _ (by omega), show (1 : Int) + 1 = 2 from rfl, il_T _ _ _ _ _ _ hl _ _ (by omega) (by omega) (by omega), Int.zero_add, r0, r2]
        split
        · rfl
        · rw [il_T _ _ _ _ _ _ hl _ _ (by omega) (by omega) (by omega), show (1 : Int) + 1 = 2 from rfl, r1, r2]
          split
          · rfl
          · rw [il_E _ _ _ _ _ _ hl _ (by omega) (by omega), r2]
            split
            · rw [il_S _ _ _ _ _ _ _ (by omega), show (2 : Int) + 1 = 3 from rfl, il_T _ _ _ _ _ _ hl _ _ (by omega) (by omega) (by omega), Int.zero_add, r0, r3]
              split
              · rfl
              · rw [il_T _ _ _ _ _ _ hl _ _ (by omega) (by omega) (by omega), show (1 : Int) + 1 = 2 from rfl, r1, r3]
                split
                · rfl
                · rw [il_T _ _ _ _ _ _ hl _ _ (by omega) (by omega) (by omega), show (2 : Int) + 1 = 3 from rfl, r2, r3]
                  split
                  · rfl
                  · rw [il_E _ _ _ _ _ _ hl _ (by omega) (by omega), r3]
                    split
                    · exfalso; apply h; unfold ILv; omega
                    · rfl
            · rfl
      · rfl
  · rfl
theorem il_R (k : Nat) (a b c d : Int) (l : List Int) (hl : l.length = 4) (n : Int) (i : Int) (h0 : 0 ≤ i) (h1 : i < n) (h2 : i < 4) :
    impl_Interleave.l0 (k + 1) a b c d l n i = if 0 ≤ rd l i ∧ rd l i ≤ 7 then impl_Interleave.l0 k a b c d l n (i + 1) else some false := by
  simp only [impl_Interleave.l0]; rw [if_pos h1, if_pos h0, if_pos (by omega), inr]
  simp only [Option.bind_some, decide_eq_true_eq, il_w i h0 h2]
theorem il_Rend (k : Nat) (a b c d : Int) (l : List Int) (n : Int) (i : Int) (h1 : ¬ i < n) (h : ¬ (a ≠ b ∧ a ≠ c ∧ a ≠ d ∧ b ≠ c ∧ b ≠ d ∧ c ≠ d)) :
    impl_Interleave.l0 (k + 1) a b c d l n i = some false := by
  simp only [impl_Interleave.l0]; rw [if_neg h1]
  repeat' split
  all_goals first | rfl | (exfalso; apply h; omega)
theorem il_impl_no (a b c d : Int) (h : ¬ ILv a b c d) : impl_Interleave.f 40 a b c d = some false := by
  obtain ⟨r0, r1, r2, r3⟩ := il_rd a b c d
  have hl : [a, b, c, d].length = 4 := rfl
  unfold impl_Interleave.f
  rw [Option.bind_some, hl]
  rw [il_R _ _ _ _ _ _ hl _ _ (by omega) (by omega) (by omega), Int.zero_add, r0]
  split
  · rw [il_R _ _ _ _ _ _ hl _ _ (by omega) (by omega) (by omega), show (1 : Int) + 1 = 2 from rfl, r1]
    split
    · rw [il_R _ _ _ _ _ _ hl _ _ (by omega) (by omega) (by omega), show (2 : Int) + 1 = 3 from rfl, r2]
      split
      · rw [il_R _ _ _ _ _ _ hl _ _ (by omega) (by omega) (by omega), show (3 : Int) + 1 = 4 from rfl, r3]
        split
        · exact il_Rend _ a b c d _ _ _ (by omega) (fun h' => h (by unfold ILv; omega))
        · rfl
      · rfl
    · rfl
  · rfl
/-- What both answer, of numbers from 0 to 7: by running both over all of them. -/
def ilW (a b c d : Int) : Bool := decide ((c - a + 8) % 8 < (b - a + 8) % 8) != decide ((d - a + 8) % 8 < (b - a + 8) % 8)
def ilBoth (a b c d : Fin 8) : Bool :=
  if a ≠ b ∧ a ≠ c ∧ a ≠ d ∧ b ≠ c ∧ b ≠ d ∧ c ≠ d then
    (spec_Interleave.f 40 (a.val : Int) (b.val : Int) (c.val : Int) (d.val : Int) == some (ilW (a.val : Int) (b.val : Int) (c.val : Int) (d.val : Int))) && (impl_Interleave.f 40 (a.val : Int) (b.val : Int) (c.val : Int) (d.val : Int) == some (ilW (a.val : Int) (b.val : Int) (c.val : Int) (d.val : Int)))
  else true
theorem ilBoth_all : ∀ a b c d : Fin 8, ilBoth a b c d = true := by decide +kernel
theorem il_yes (a b c d : Int) (h : ILv a b c d) : spec_Interleave.f 40 a b c d = some (ilW a b c d) ∧ impl_Interleave.f 40 a b c d = some (ilW a b c d) := by
  obtain ⟨⟨a0, a1⟩, ⟨b0, b1⟩, ⟨c0, c1⟩, ⟨d0, d1⟩, h1, h2, h3, h4, h5, h6⟩ := h
  obtain ⟨a, rfl⟩ := Int.eq_ofNat_of_zero_le a0
  obtain ⟨b, rfl⟩ := Int.eq_ofNat_of_zero_le b0
  obtain ⟨c, rfl⟩ := Int.eq_ofNat_of_zero_le c0
  obtain ⟨d, rfl⟩ := Int.eq_ofNat_of_zero_le d0
  have := ilBoth_all ⟨a, by omega⟩ ⟨b, by omega⟩ ⟨c, by omega⟩ ⟨d, by omega⟩
  unfold ilBoth at this
  rw [if_pos (by simp only [ne_eq, Fin.mk.injEq]; omega), Bool.and_eq_true] at this
  exact ⟨eq_of_beq this.1, eq_of_beq this.2⟩
/-- What both come to, whatever the numbers. -/
instance (a b c d : Int) : Decidable (ILv a b c d) := by unfold ILv; infer_instance
def ilV (a b c d : Int) : Bool := decide (ILv a b c d) && ilW a b c d
theorem sIl_eq (k : Nat) (a b c d : Int) (hk : 40 ≤ k) : spec_Interleave.f k a b c d = some (ilV a b c d) := by
  refine at_rounds (fun k => spec_Interleave.mono a b c d k) hk ?_
  unfold ilV
  by_cases h : ILv a b c d
  · rw [(il_yes a b c d h).1, decide_eq_true h, Bool.true_and]
  · rw [il_spec_no a b c d h, decide_eq_false h, Bool.false_and]
theorem iIl_eq (k : Nat) (a b c d : Int) (hk : 40 ≤ k) : impl_Interleave.f k a b c d = some (ilV a b c d) := by
  refine at_rounds (fun k => impl_Interleave.mono a b c d k) hk ?_
  unfold ilV
  by_cases h : ILv a b c d
  · rw [(il_yes a b c d h).2, decide_eq_true h, Bool.true_and]
  · rw [il_impl_no a b c d h, decide_eq_false h, Bool.false_and]

theorem w64 {x : Int} (h0 : -9223372036854775808 ≤ x) (h1 : x ≤ 9223372036854775807) : wrap64 x = x := by
  unfold wrap64; omega

theorem sIn_eq (a : Int) (h0 : 0 ≤ a) (h1 : a ≤ 3) : spec_InPlace.f a = some (2 * a) := by
  unfold spec_InPlace.f
  rw [in1, Option.bind_some, if_pos (by simp; omega), w64 (by omega) (by omega)]
theorem sOut_eq (a : Int) (h0 : 0 ≤ a) (h1 : a ≤ 3) : spec_OutPlace.f a = some (2 * a + 1) := by
  unfold spec_OutPlace.f
  rw [in1, Option.bind_some, if_pos (by simp; omega), w64 (x := 2 * a) (by omega) (by omega), w64 (by omega) (by omega)]
theorem iIn_eq (a : Int) (h0 : 0 ≤ a) (h1 : a ≤ 3) : impl_InPlace.f a = some (2 * a) := by
  unfold impl_InPlace.f
  rw [inr, Option.bind_some, if_pos (by simp; omega), w64 (by omega) (by omega)]
theorem iOut_eq (a : Int) (h0 : 0 ≤ a) (h1 : a ≤ 3) : impl_OutPlace.f a = some (2 * a + 1) := by
  unfold impl_OutPlace.f
  rw [inr, Option.bind_some, if_pos (by simp; omega), w64 (x := 2 * a) (by omega) (by omega), w64 (by omega) (by omega)]

/-- Do paths of these kinds, from there to there, conflict? -/
def cfW (k f t k' f' t' : Int) : Bool :=
  if k = 2 then (if k' = 2 then false else (f' == f || t' == f)) else
  if k' = 2 then (f == f' || t == f') else
  if f = f' then false else if t = t' then true else ilV (2 * f) (2 * t + 1) (2 * f') (2 * t' + 1)
def cfV (a b c d a' b' c' d' : Int) : Bool := isPathV a b c d && (isPathV a' b' c' d' && cfW b c d b' c' d')
theorem il_same (a b d : Int) : ilV a b a d = false := by
  unfold ilV; rw [decide_eq_false (by unfold ILv; omega), Bool.false_and]
theorem sConf_eq (k : Nat) (a b c d a' b' c' d' : Int) (hk : 41 < k) : spec_Conflict.f k a b c d a' b' c' d' = some (cfV a b c d a' b' c' d') := by
  obtain ⟨k, rfl⟩ : ∃ m, k = m + 1 := ⟨k - 1, by omega⟩
  unfold spec_Conflict.f cfV cfW
  simp only [sIsPath, Option.bind_some, spec_Conflict.j0]
  cases h1 : isPathV a b c d with
  | false => simp
  | true =>
    cases h2 : isPathV a' b' c' d' with
    | false => simp
    | true =>
      obtain ⟨_, _, hc, hd, _⟩ := (isPathV_iff a b c d).1 h1
      obtain ⟨_, _, hc', hd', _⟩ := (isPathV_iff a' b' c' d').1 h2
      simp only [if_true, Bool.true_and, Bool.false_eq_true, if_false]
      by_cases hb : b = 2
      · rw [if_pos hb, if_pos hb]
        by_cases hb' : b' = 2
        · rw [if_pos hb', if_pos (by rw [hb']; rfl), if_pos hb]
        · rw [if_neg (by rw [beq_iff_eq]; exact hb'), if_pos hb, if_neg hb']
          by_cases h : c' = c
          · rw [if_pos h, h]; simp
          · rw [if_neg h]; simp [h]
      · rw [if_neg hb, if_neg hb, if_neg hb]
        by_cases hb' : b' = 2
        · rw [if_pos hb', if_pos hb']
          by_cases h : c = c'
          · rw [if_pos h, h]; simp
          · rw [if_neg h]; simp [h]
        · rw [if_neg hb', if_neg hb']
          by_cases h : c = c'
          · rw [if_pos h, if_pos h]
          · rw [if_neg h, if_neg h]
            by_cases h' : d = d'
            · rw [if_pos h', if_pos h']
            · rw [if_neg h', if_neg h', sIn_eq c hc.1 hc.2, sOut_eq d hd.1 hd.2, sIn_eq c' hc'.1 hc'.2, sOut_eq d' hd'.1 hd'.2]
              simp only [Option.bind_some]
              rw [sIl_eq k _ _ _ _ (by omega)]; rfl
theorem iConf_eq (k : Nat) (a b c d a' b' c' d' : Int) (hk : 41 < k) : impl_Conflict.f k a b c d a' b' c' d' = some (cfV a b c d a' b' c' d') := by
  obtain ⟨k, rfl⟩ : ∃ m, k = m + 1 := ⟨k - 1, by omega⟩
  unfold impl_Conflict.f cfV cfW
  simp only [iIsPath, Option.bind_some, impl_Conflict.j0]
  cases h1 : isPathV a b c d with
  | false => simp
  | true =>
    cases h2 : isPathV a' b' c' d' with
    | false => simp
    | true =>
      obtain ⟨_, _, hc, hd, _⟩ := (isPathV_iff a b c d).1 h1
      obtain ⟨_, _, hc', hd', _⟩ := (isPathV_iff a' b' c' d').1 h2
      simp only [if_true, Bool.true_and, Bool.false_eq_true, if_false]
      by_cases hb : b = 2
      · rw [if_pos hb, if_pos hb]
        by_cases hb' : b' = 2
        · rw [if_pos hb', if_pos (by rw [hb']; rfl), if_pos hb]
        · rw [if_neg (by rw [beq_iff_eq]; exact hb'), if_pos hb, if_neg hb']
          by_cases h : c' = c
          · rw [if_pos h, h]; simp
          · rw [if_neg h]; simp [h]
      · rw [if_neg hb, if_neg hb, if_neg hb]
        by_cases hb' : b' = 2
        · rw [if_pos hb', if_pos hb']
          by_cases h : c = c'
          · rw [if_pos h, h]; simp
          · rw [if_neg h]; simp [h]
        · rw [if_neg hb', if_neg hb', iIn_eq c hc.1 hc.2, iOut_eq d hd.1 hd.2, iIn_eq c' hc'.1 hc'.2, iOut_eq d' hd'.1 hd'.2]
          simp only [Option.bind_some]
          rw [iIl_eq k _ _ _ _ (by omega)]
          simp only [Option.bind_some]
          by_cases h : c = c'
          · rw [if_pos h, if_pos h, h, il_same]
          · rw [if_neg h, if_neg h]
            split <;> rfl

theorem FnExactConflict {a b c d a' b' c' d' : Int} (_ : (Lit.int .i64 a).wf = true) (_ : (Lit.int .i64 b).wf = true) (_ : (Lit.int .i64 c).wf = true) (_ : (Lit.int .i64 d).wf = true)
    (_ : (Lit.int .i64 a').wf = true) (_ : (Lit.int .i64 b').wf = true) (_ : (Lit.int .i64 c').wf = true) (_ : (Lit.int .i64 d').wf = true) : ∃ k, laws_FnExactConflict.f k a b c d a' b' c' d' = some true := by
  refine ⟨42, ?_⟩
  unfold laws_FnExactConflict.f laws_toPath.f
  simp only [Option.bind_some]
  rw [sConf_eq 42 _ _ _ _ _ _ _ _ (by omega), Option.bind_some, iConf_eq 42 _ _ _ _ _ _ _ _ (by omega), Option.bind_some]; simp

end Go.Proofs.Ytepicmocmioiiaa.Pure
