/- What the row of FnExactCountConflicts leans on: for every slice of paths (that fits into memory) the law answers true; no condition. -/
import Derived.Test.YtfglfocjoffjpaaPFnExactCountConflictsx9
set_option linter.unusedVariables false
set_option linter.unusedSimpArgs false
namespace Go.Proofs.Ytfglfocjoffjpaa.Pure
open Go.RowKit Go.Proofs.Ytfglfocjoffjpaa.PFnExactCountConflicts Go.Proofs.YtfglfocjoffjpaaW.PrintWords Go.Proofs.YtfglfocjoffjpaaW.PrintLast

theorem in1 (a b c : Int) : spec_l1In.f a b c = some (decide (b ≤ a ∧ a ≤ c)) := by
  unfold spec_l1In.f
  by_cases h : a ≥ b
  · rw [if_pos h]; congr 1; simp only [decide_eq_decide]; omega
  · rw [if_neg h]; congr 1; symm; simp only [decide_eq_false_iff_not]; omega

theorem inr (a b c : Int) : impl_InRange.f a b c = some (decide (b ≤ a ∧ a ≤ c)) := by
  unfold impl_InRange.f
  by_cases h : b ≤ a
  · rw [if_pos h]; congr 1; simp only [decide_eq_decide]; omega
  · rw [if_neg h]; congr 1; symm; simp only [decide_eq_false_iff_not]; omega

def isPathV (a b c d : Int) : Bool := decide (1 ≤ a ∧ a ≤ 20) && (decide (1 ≤ b ∧ b ≤ 3) && (decide (0 ≤ c ∧ c ≤ 3) && (decide (0 ≤ d ∧ d ≤ 3) && ((c == d) == (b == 2)))))
theorem sIsPath (a b c d : Int) : spec_IsPath.f a b c d = some (isPathV a b c d) := by
  unfold spec_IsPath.f isPathV
  simp only [in1, Option.bind_some]
  generalize decide (1 ≤ a ∧ a ≤ 20) = p1
  generalize decide (1 ≤ b ∧ b ≤ 3) = p2
  generalize decide (0 ≤ c ∧ c ≤ 3) = p3
  generalize decide (0 ≤ d ∧ d ≤ 3) = p4
  cases p1 <;> cases p2 <;> cases p3 <;> cases p4 <;> rfl
theorem iIsPath (a b c d : Int) : impl_IsPath.f a b c d = some (isPathV a b c d) := by
  unfold impl_IsPath.f isPathV
  simp only [inr, Option.bind_some]
  generalize decide (1 ≤ a ∧ a ≤ 20) = p1
  generalize decide (1 ≤ b ∧ b ≤ 3) = p2
  generalize decide (0 ≤ c ∧ c ≤ 3) = p3
  generalize decide (0 ≤ d ∧ d ≤ 3) = p4
  cases p1 <;> cases p2 <;> cases p3 <;> cases p4 <;> rfl
theorem isPathV_iff (a b c d : Int) : isPathV a b c d = true ↔ (1 ≤ a ∧ a ≤ 20) ∧ (1 ≤ b ∧ b ≤ 3) ∧ (0 ≤ c ∧ c ≤ 3) ∧ (0 ≤ d ∧ d ≤ 3) ∧ (c = d ↔ b = 2) := by
  unfold isPathV
  simp only [Bool.and_eq_true, decide_eq_true_eq, beq_iff_eq]
  have : ((c == d) = (b == 2)) ↔ (c = d ↔ b = 2) := by
    rw [Bool.eq_iff_iff]; simp only [beq_iff_eq]
  rw [this]

theorem wsucc {i n : Nat} (h : i < n) (hn : n ≤ 9223372036854775807) : wrap64 ((i : Int) + 1) = ((i + 1 : Nat) : Int) := by unfold wrap64; omega
theorem rd_nat (xs : List Int) (i : Nat) : rd xs (i : Int) = xs.getD i 0 := by unfold rd; rw [Int.toNat_natCast]
theorem rd_get (xs : List Int) (i : Nat) (h : i < xs.length) : rd xs (i : Int) = xs[i] := by
  rw [rd_nat, List.getD_eq_getElem?_getD, List.getElem?_eq_getElem h]; rfl
theorem drop_cons {α : Type} (xs : List α) (i : Nat) (h : i < xs.length) : xs.drop i = xs[i] :: xs.drop (i + 1) := (List.drop_eq_getElem_cons h)
theorem set_take {α : Type} (ys : List α) (i : Nat) (v : α) (h : i < ys.length) : (ys.set i v).take (i + 1) = ys.take i ++ [v] := by
  rw [List.take_succ_eq_append_getElem (by simpa using h)]
  rw [List.take_set, List.set_eq_of_length_le (by simp; omega)]
  simp

/-- The law's path as the program's. -/
def cvP (x : S30) : S32 := ⟨x.f0, x.f1, x.f2, x.f3⟩
def pathV (p : S32) : Bool := isPathV p.f0 p.f1 p.f2 p.f3
theorem rdL_get (xs : List S30) (i : Nat) (h : i < xs.length) : rd_T30 xs (i : Int) = xs[i] := by
  unfold rd_T30; rw [Int.toNat_natCast, List.getD_eq_getElem?_getD, List.getElem?_eq_getElem h]; rfl
theorem rdI_get (xs : List S32) (i : Nat) (h : i < xs.length) : rd_T32 xs (i : Int) = xs[i] := by
  unfold rd_T32; rw [Int.toNat_natCast, List.getD_eq_getElem?_getD, List.getElem?_eq_getElem h]; rfl
theorem toPathS_go (xs : List S30) (hn : xs.length ≤ 9223372036854775807) : ∀ (d k : Nat) (ys : List S32) (i : Nat), ys.length = xs.length → i + d = xs.length → d < k →
    laws_toPathS.l0 k xs ys (i : Int) = some (ys.take i ++ (xs.drop i).map cvP) := by
  intro d
  induction d with
  | zero =>
    intro k ys i hl hi hk
    obtain ⟨k, rfl⟩ : ∃ m, k = m + 1 := ⟨k - 1, by omega⟩
    simp only [laws_toPathS.l0]
    rw [if_neg (by omega), List.take_of_length_le (by omega), List.drop_of_length_le (by omega)]; simp
  | succ d ih =>
    intro k ys i hl hi hk
    obtain ⟨k, rfl⟩ : ∃ m, k = m + 1 := ⟨k - 1, by omega⟩
    simp only [laws_toPathS.l0, laws_toPath.f]
    rw [if_pos (by omega), if_pos (by omega), Option.bind_some, if_pos (by omega), wsucc (show i < xs.length by omega) hn, ih k _ (i + 1) (by simpa using hl) (by omega) (by omega), Int.toNat_natCast, set_take _ _ _ (by omega), rdL_get _ _ (by omega), List.append_assoc, drop_cons xs i (by omega)]
    rfl
theorem toPathS_eq (k : Nat) (l : List S30) (hk : l.length < k) (hn : l.length ≤ 8796093022208) : laws_toPathS.f k l = some (l.map cvP) := by
  unfold laws_toPathS.f
  rw [if_pos (by omega), if_pos (by omega)]
  have := toPathS_go l (by omega) l.length k (List.replicate ((l.length : Int)).toNat z32) 0 (by simp) (by omega) (by omega)
  rw [Int.natCast_zero] at this
  rw [this]; simp
theorem szPathS_eq (l : List S30) (hn : l.length ≤ 8796093022208) : laws_szPathS.f l 1048576 = some (if l.length ≤ 1048576 then 1048576 - (l.length : Int) else -1) := by
  unfold laws_szPathS.f
  have w : wrap64 (1048576 - (l.length : Int)) = 1048576 - l.length := by unfold wrap64; omega
  rw [w]
  by_cases h : l.length ≤ 1048576
  · rw [if_neg (by omega), if_pos h]
  · rw [if_pos (by omega), if_neg h]
theorem eqPath_self (a b c d : Int) : laws_eqPath.f a b c d a b c d = some true := by unfold laws_eqPath.f; simp
theorem eqPathS_go (xs : List S32) (hn : xs.length ≤ 9223372036854775807) : ∀ (d k : Nat) (i : Nat), i + d = xs.length → d < k → laws_eqPathS.l0 k xs xs (i : Int) = some true := by
  intro d
  induction d with
  | zero =>
    intro k i hi hk
    obtain ⟨k, rfl⟩ : ∃ m, k = m + 1 := ⟨k - 1, by omega⟩
    simp only [laws_eqPathS.l0]
    rw [if_neg (by omega)]
  | succ d ih =>
    intro k i hi hk
    obtain ⟨k, rfl⟩ : ∃ m, k = m + 1 := ⟨k - 1, by omega⟩
    simp only [laws_eqPathS.l0]
    rw [if_pos (by omega), if_pos (by omega), if_pos (by omega), eqPath_self, Option.bind_some, if_pos rfl, wsucc (show i < xs.length by omega) hn, ih k (i + 1) (by omega) (by omega)]
theorem eqPathS_self (k : Nat) (l : List S32) (hk : l.length < k) (hn : l.length ≤ 9223372036854775807) : laws_eqPathS.f k l l = some true := by
  unfold laws_eqPathS.f
  rw [if_pos rfl]
  have := eqPathS_go l hn l.length k 0 (by omega) hk
  rw [Int.natCast_zero] at this
  exact this

/-- The path at i is one, and above the one before it. -/
def okAt (l : List S32) (i : Nat) : Bool := pathV (l.getD i z32) && (decide (i = 0) || decide ((l.getD (i - 1) z32).f0 < (l.getD i z32).f0))
def arFrom (l : List S32) : Nat → Nat → Bool | 0, _ => true | d + 1, i => okAt l i && arFrom l d (i + 1)
def areV (l : List S32) : Bool := decide (l.length ≤ 12) && arFrom l l.length 0
theorem getDI (xs : List S32) (i : Nat) (h : i < xs.length) : xs.getD i z32 = xs[i] := by
  rw [List.getD_eq_getElem?_getD, List.getElem?_eq_getElem h]; rfl
theorem wpred {i : Nat} (h : 0 < i) (hi : i ≤ 9223372036854775807) : wrap64 ((i : Int) - 1) = ((i - 1 : Nat) : Int) := by unfold wrap64; omega
theorem sAre_go (l : List S32) (hn : l.length ≤ 9223372036854775807) : ∀ (d k : Nat) (i : Nat), i + d = l.length → d < k → spec_ArePaths.l0 k l (i : Int) = some (decide (l.length ≤ 12) && arFrom l d i) := by
  intro d
  induction d with
  | zero =>
    intro k i hi hk
    obtain ⟨k, rfl⟩ : ∃ m, k = m + 1 := ⟨k - 1, by omega⟩
    simp only [spec_ArePaths.l0, arFrom]
    rw [if_neg (by omega), Bool.and_true]; congr 1; rw [decide_eq_decide]; omega
  | succ d ih =>
    intro k i hi hk
    obtain ⟨k, rfl⟩ : ∃ m, k = m + 1 := ⟨k - 1, by omega⟩
    simp only [spec_ArePaths.l0, arFrom, okAt]
    rw [if_pos (by omega), if_pos (by omega), sIsPath, Option.bind_some, rdI_get _ _ (by omega), wsucc (show i < l.length by omega) hn, ih k (i + 1) (by omega) (by omega), getDI l i (by omega)]
    have hpv : isPathV (l[i]).f0 (l[i]).f1 (l[i]).f2 (l[i]).f3 = pathV l[i] := rfl
    rw [hpv]
    cases hp : pathV l[i] with
    | false => rw [if_neg (by decide), Bool.false_and, Bool.false_and, Bool.and_false]
    | true =>
      rw [if_pos rfl]
      by_cases h0 : i = 0
      · subst h0
        rw [if_neg (by omega)]; simp
      · rw [if_pos (by omega), wpred (by omega) (by omega), if_pos (by omega), if_pos (by omega), rdI_get _ _ (by omega), getDI l (i - 1) (by omega), decide_eq_false h0, Bool.false_or, Bool.true_and]
        by_cases hc : (l[i - 1]).f0 < (l[i]).f0
        · rw [if_neg (by omega), decide_eq_true hc, Bool.true_and]
        · rw [if_pos (by omega), decide_eq_false hc, Bool.false_and, Bool.and_false]
theorem sAre_eq (k : Nat) (l : List S32) (hk : l.length < k) (hn : l.length ≤ 9223372036854775807) : spec_ArePaths.f k l = some (areV l) := by
  unfold spec_ArePaths.f areV
  have := sAre_go l hn l.length k 0 (by omega) hk
  rw [Int.natCast_zero] at this
  exact this
theorem iAre_go (l : List S32) (hn : l.length ≤ 9223372036854775807) : ∀ (d k : Nat) (i : Nat), i + d = l.length → d < k → impl_ArePaths.l0 k l l (l.length : Int) (i : Int) = some (arFrom l d i) := by
  intro d
  induction d with
  | zero =>
    intro k i hi hk
    obtain ⟨k, rfl⟩ : ∃ m, k = m + 1 := ⟨k - 1, by omega⟩
    simp only [impl_ArePaths.l0, arFrom]
    rw [if_neg (by omega)]
  | succ d ih =>
    intro k i hi hk
    obtain ⟨k, rfl⟩ : ∃ m, k = m + 1 := ⟨k - 1, by omega⟩
    simp only [impl_ArePaths.l0, arFrom, okAt]
    rw [if_pos (by omega), if_pos (by omega), if_pos (by omega), iIsPath, Option.bind_some, rdI_get _ _ (by omega), wsucc (show i < l.length by omega) hn, ih k (i + 1) (by omega) (by omega), getDI l i (by omega)]
    have hpv : isPathV (l[i]).f0 (l[i]).f1 (l[i]).f2 (l[i]).f3 = pathV l[i] := rfl
    rw [hpv]
    cases hp : pathV l[i] with
    | false => rw [if_neg (by decide), Bool.false_and, Bool.false_and]
    | true =>
      rw [if_pos rfl]
      by_cases h0 : i = 0
      · subst h0
        rw [if_neg (by omega)]; simp
      · rw [if_pos (by omega), wpred (by omega) (by omega), if_pos (by omega), if_pos (by omega), rdI_get _ _ (by omega), getDI l (i - 1) (by omega), decide_eq_false h0, Bool.false_or, Bool.true_and]
        by_cases hc : (l[i - 1]).f0 < (l[i]).f0
        · rw [if_neg (by omega), decide_eq_true hc, Bool.true_and]
        · rw [if_pos (by omega), decide_eq_false hc, Bool.false_and]
theorem iAre_eq (k : Nat) (l : List S32) (hk : l.length < k) (hn : l.length ≤ 9223372036854775807) : impl_ArePaths.f k l = some (areV l) := by
  unfold impl_ArePaths.f areV
  have := iAre_go l hn l.length k 0 (by omega) hk
  rw [Int.natCast_zero] at this
  by_cases h : l.length ≤ 12
  · rw [if_neg (by omega), decide_eq_true h, Bool.true_and]; exact this
  · rw [if_pos (by omega), decide_eq_false h, Bool.false_and]
theorem arFrom_iff (l : List S32) : ∀ d i, arFrom l d i = true ↔ ∀ j, i ≤ j → j < i + d → okAt l j = true := by
  intro d
  induction d with
  | zero => intro i; simp only [arFrom, true_iff]; intro j h1 h2; omega
  | succ d ih =>
    intro i
    simp only [arFrom, Bool.and_eq_true, ih]
    constructor
    · rintro ⟨h1, h2⟩ j h3 h4
      rcases Nat.eq_or_lt_of_le h3 with rfl | h5
      · exact h1
      · exact h2 j h5 (by omega)
    · intro h; exact ⟨h i (Nat.le_refl _) (by omega), fun j h3 h4 => h j (by omega) (by omega)⟩

/-- The four numbers are different, from 0 to 7. -/
def ILv (a b c d : Int) : Prop := (0 ≤ a ∧ a ≤ 7) ∧ (0 ≤ b ∧ b ≤ 7) ∧ (0 ≤ c ∧ c ≤ 7) ∧ (0 ≤ d ∧ d ≤ 7) ∧ a ≠ b ∧ a ≠ c ∧ a ≠ d ∧ b ≠ c ∧ b ≠ d ∧ c ≠ d
theorem il_rd (a b c d : Int) : rd [a, b, c, d] 0 = a ∧ rd [a, b, c, d] 1 = b ∧ rd [a, b, c, d] 2 = c ∧ rd [a, b, c, d] 3 = d := ⟨rfl, rfl, rfl, rfl⟩
theorem il_w (i : Int) (h0 : 0 ≤ i) (h1 : i < 4) : wrap64 (i + 1) = i + 1 := by unfold wrap64; omega
theorem il_S (k : Nat) (a b c d : Int) (l : List Int) (i : Int) (h1 : i < 4) : spec_Interleave.l0 (k + 1) a b c d l i = spec_Interleave.l1 k a b c d l i 0 := by
  simp only [spec_Interleave.l0]; rw [if_pos h1]
theorem il_T (k : Nat) (a b c d : Int) (l : List Int) (hl : l.length = 4) (i j : Int) (h0 : 0 ≤ j) (h1 : j < i) (h2 : i < 4) :
    spec_Interleave.l1 (k + 1) a b c d l i j = if rd l i = rd l j then some false else spec_Interleave.l1 k a b c d l i (j + 1) := by
  simp only [spec_Interleave.l1]; rw [if_pos h1, if_pos (by omega), if_pos (by omega), if_pos h0, if_pos (by omega), il_w j h0 (by omega)]
theorem il_E (k : Nat) (a b c d : Int) (l : List Int) (hl : l.length = 4) (i : Int) (h0 : 0 ≤ i) (h2 : i < 4) :
    spec_Interleave.l1 (k + 1) a b c d l i i = if 0 ≤ rd l i ∧ rd l i ≤ 7 then spec_Interleave.l0 k a b c d l (i + 1) else some false := by
  simp only [spec_Interleave.l1]; rw [if_neg (by omega), if_pos (by omega), if_pos (by omega), in1]
  simp only [Option.bind_some, decide_eq_true_eq, il_w i h0 h2]
theorem il_spec_no (a b c d : Int) (h : ¬ ILv a b c d) : spec_Interleave.f 40 a b c d = some false := by
  obtain ⟨r0, r1, r2, r3⟩ := il_rd a b c d
  have hl : [a, b, c, d].length = 4 := rfl
  unfold spec_Interleave.f
  rw [il_S _ _ _ _ _ _ _ (by omega), il_E _ _ _ _ _ _ hl _ (by omega) (by omega), r0]
  split
  · rw [il_S _ _ _ _ _ _ _ (by omega), il_T _ _ _ _ _ _ hl _ _ (by omega) (by omega) (by omega), Int.zero_add, r0, r1]
    split
    · rfl
    · rw [il_E _ _ _ _ _ _ hl _ (by omega) (by omega), r1]
      split
      · rw [il_S _ _ _ _ _ _ _ (by omega), show (1 : Int) + 1 = 2 from rfl, il_T _ _ _ _ _ _ hl _ _ (by omega) (by omega) (by omega), Int.zero_add, r0, r2]
        split
        · rfl
        · rw [il_T _ _ _ _ _ _ hl _ _ (by omega) (by omega) (by omega), show (1 : Int) + 1 = 2 from rfl, r1, r2]
          split
          · rfl
          · rw [il_E _ _ _ _ _ _ hl _ (by omega) (by omega), r2]
            split
            · rw [il_S _ _ _ _ _ _ _ (by omega), show (2 : Int) + 1 = 3 from rfl, il_T _ _ _ _ _ _ hl _ _ (by omega) (by omega) (by omega), Int.zero_add, r0, r3]
              split
              · rfl
              · rw [il_T _ _ _ _ _ _ hl _ _ (by omega) (by omega) (by omega), show (1 : Int) + 1 = 2 from rfl, r1, r3]
                split
                · rfl
                · rw [il_T _ _ _ _ _ _ hl _ _ (by omega) (by omega) (by omega), show (2 : Int) + 1 = 3 from rfl, r2, r3]
                  split
                  · rfl
                  · rw [il_E _ _ _ _ _ _ hl _ (by omega) (by omega), r3]
                    split
                    · exfalso; apply h; unfold ILv; omega
                    · rfl
            · rfl
      · rfl
  · rfl
theorem il_R (k : Nat) (a b c d : Int) (l : List Int) (hl : l.length = 4) (n : Int) (i : Int) (h0 : 0 ≤ i) (h1 : i < n) (h2 : i < 4) :
    impl_Interleave.l0 (k + 1) a b c d l n i = if 0 ≤ rd l i ∧ rd l i ≤ 7 then impl_Interleave.l0 k a b c d l n (i + 1) else some false := by
  simp only [impl_Interleave.l0]; rw [if_pos h1, if_pos h0, if_pos (by omega), inr]
  simp only [Option.bind_some, decide_eq_true_eq, il_w i h0 h2]
theorem il_Rend (k : Nat) (a b c d : Int) (l : List Int) (n : Int) (i : Int) (h1 : ¬ i < n) (h : ¬ (a ≠ b ∧ a ≠ c ∧ a ≠ d ∧ b ≠ c ∧ b ≠ d ∧ c ≠ d)) :
    impl_Interleave.l0 (k + 1) a b c d l n i = some false := by
  simp only [impl_Interleave.l0]; rw [if_neg h1]
  repeat' split
  all_goals first | rfl | (exfalso; apply h; omega)
theorem il_impl_no (a b c d : Int) (h : ¬ ILv a b c d) : impl_Interleave.f 40 a b c d = some false := by
  obtain ⟨r0, r1, r2, r3⟩ := il_rd a b c d
  have hl : [a, b, c, d].length = 4 := rfl
  unfold impl_Interleave.f
  rw [Option.bind_some, hl]
  rw [il_R _ _ _ _ _ _ hl _ _ (by omega) (by omega) (by omega), Int.zero_add, r0]
  split
  · rw [il_R _ _ _ _ _ _ hl _ _ (by omega) (by omega) (by omega), show (1 : Int) + 1 = 2 from rfl, r1]
    split
    · rw [il_R _ _ _ _ _ _ hl _ _ (by omega) (by omega) (by omega), show (2 : Int) + 1 = 3 from rfl, r2]
      split
      · rw [il_R _ _ _ _ _ _ hl _ _ (by omega) (by omega) (by omega), show (3 : Int) + 1 = 4 from rfl, r3]
        split
        · exact il_Rend _ a b c d _ _ _ (by omega) (fun h' => h (by unfold ILv; omega))
        · rfl
      · rfl
    · rfl
  · rfl
/-- What both answer, of numbers from 0 to 7: by running both over all of them. -/
def ilW (a b c d : Int) : Bool := decide ((c - a + 8) % 8 < (b - a + 8) % 8) != decide ((d - a + 8) % 8 < (b - a + 8) % 8)
def ilBoth (a b c d : Fin 8) : Bool :=
  if a ≠ b ∧ a ≠ c ∧ a ≠ d ∧ b ≠ c ∧ b ≠ d ∧ c ≠ d then
    (spec_Interleave.f 40 (a.val : Int) (b.val : Int) (c.val : Int) (d.val : Int) == some (ilW (a.val : Int) (b.val : Int) (c.val : Int) (d.val : Int))) && (impl_Interleave.f 40 (a.val : Int) (b.val : Int) (c.val : Int) (d.val : Int) == some (ilW (a.val : Int) (b.val : Int) (c.val : Int) (d.val : Int)))
  else true
theorem ilBoth_all : ∀ a b c d : Fin 8, ilBoth a b c d = true := by decide +kernel
theorem il_yes (a b c d : Int) (h : ILv a b c d) : spec_Interleave.f 40 a b c d = some (ilW a b c d) ∧ impl_Interleave.f 40 a b c d = some (ilW a b c d) := by
  obtain ⟨⟨a0, a1⟩, ⟨b0, b1⟩, ⟨c0, c1⟩, ⟨d0, d1⟩, h1, h2, h3, h4, h5, h6⟩ := h
  obtain ⟨a, rfl⟩ := Int.eq_ofNat_of_zero_le a0
  obtain ⟨b, rfl⟩ := Int.eq_ofNat_of_zero_le b0
  obtain ⟨c, rfl⟩ := Int.eq_ofNat_of_zero_le c0
  obtain ⟨d, rfl⟩ := Int.eq_ofNat_of_zero_le d0
  have := ilBoth_all ⟨a, by omega⟩ ⟨b, by omega⟩ ⟨c, by omega⟩ ⟨d, by omega⟩
  unfold ilBoth at this
  rw [if_pos (by simp only [ne_eq, Fin.mk.injEq]; omega), Bool.and_eq_true] at this
  exact ⟨eq_of_beq this.1, eq_of_beq this.2⟩
/-- What both come to, whatever the numbers. -/
instance (a b c d : Int) : Decidable (ILv a b c d) := by unfold ILv; infer_instance
def ilV (a b c d : Int) : Bool := decide (ILv a b c d) && ilW a b c d
theorem sIl_eq (k : Nat) (a b c d : Int) (hk : 40 ≤ k) : spec_Interleave.f k a b c d = some (ilV a b c d) := by
  refine at_rounds (fun k => spec_Interleave.mono a b c d k) hk ?_
  unfold ilV
  by_cases h : ILv a b c d
  · rw [(il_yes a b c d h).1, decide_eq_true h, Bool.true_and]
  · rw [il_spec_no a b c d h, decide_eq_false h, Bool.false_and]
theorem iIl_eq (k : Nat) (a b c d : Int) (hk : 40 ≤ k) : impl_Interleave.f k a b c d = some (ilV a b c d) := by
  refine at_rounds (fun k => impl_Interleave.mono a b c d k) hk ?_
  unfold ilV
  by_cases h : ILv a b c d
  · rw [(il_yes a b c d h).2, decide_eq_true h, Bool.true_and]
  · rw [il_impl_no a b c d h, decide_eq_false h, Bool.false_and]

theorem w64 {x : Int} (h0 : -9223372036854775808 ≤ x) (h1 : x ≤ 9223372036854775807) : wrap64 x = x := by
  unfold wrap64; omega

theorem sIn_eq (a : Int) (h0 : 0 ≤ a) (h1 : a ≤ 3) : spec_InPlace.f a = some (2 * a) := by
  unfold spec_InPlace.f
  rw [in1, Option.bind_some, if_pos (by simp; omega), w64 (by omega) (by omega)]
theorem sOut_eq (a : Int) (h0 : 0 ≤ a) (h1 : a ≤ 3) : spec_OutPlace.f a = some (2 * a + 1) := by
  unfold spec_OutPlace.f
  rw [in1, Option.bind_some, if_pos (by simp; omega), w64 (x := 2 * a) (by omega) (by omega), w64 (by omega) (by omega)]
theorem iIn_eq (a : Int) (h0 : 0 ≤ a) (h1 : a ≤ 3) : impl_InPlace.f a = some (2 * a) := by
  unfold impl_InPlace.f
  rw [inr, Option.bind_some, if_pos (by simp; omega), w64 (by omega) (by omega)]
theorem iOut_eq (a : Int) (h0 : 0 ≤ a) (h1 : a ≤ 3) : impl_OutPlace.f a = some (2 * a + 1) := by
  unfold impl_OutPlace.f
  rw [inr, Option.bind_some, if_pos (by simp; omega), w64 (x := 2 * a) (by omega) (by omega), w64 (by omega) (by omega)]

/-- Do paths of these kinds, from there to there, conflict? -/
def cfW (k f t k' f' t' : Int) : Bool :=
  if k = 2 then (if k' = 2 then false else (f' == f || t' == f)) else
  if k' = 2 then (f == f' || t == f') else
  if f = f' then false else if t = t' then true else ilV (2 * f) (2 * t + 1) (2 * f') (2 * t' + 1)
def cfV (a b c d a' b' c' d' : Int) : Bool := isPathV a b c d && (isPathV a' b' c' d' && cfW b c d b' c' d')
theorem il_same (a b d : Int) : ilV a b a d = false := by
  unfold ilV; rw [decide_eq_false (by unfold ILv; omega), Bool.false_and]
theorem sConf_eq (k : Nat) (a b c d a' b' c' d' : Int) (hk : 41 < k) : spec_Conflict.f k a b c d a' b' c' d' = some (cfV a b c d a' b' c' d') := by
  obtain ⟨k, rfl⟩ : ∃ m, k = m + 1 := ⟨k - 1, by omega⟩
  unfold spec_Conflict.f cfV cfW
  simp only [sIsPath, Option.bind_some, spec_Conflict.j0]
  cases h1 : isPathV a b c d with
  | false => simp
  | true =>
    cases h2 : isPathV a' b' c' d' with
    | false => simp
    | true =>
      obtain ⟨_, _, hc, hd, _⟩ := (isPathV_iff a b c d).1 h1
      obtain ⟨_, _, hc', hd', _⟩ := (isPathV_iff a' b' c' d').1 h2
      simp only [if_true, Bool.true_and, Bool.false_eq_true, if_false]
      by_cases hb : b = 2
      · rw [if_pos hb, if_pos hb]
        by_cases hb' : b' = 2
        · rw [if_pos hb', if_pos (by rw [hb']; rfl), if_pos hb]
        · rw [if_neg (by rw [beq_iff_eq]; exact hb'), if_pos hb, if_neg hb']
          by_cases h : c' = c
          · rw [if_pos h, h]; simp
          · rw [if_neg h]; simp [h]
      · rw [if_neg hb, if_neg hb, if_neg hb]
        by_cases hb' : b' = 2
        · rw [if_pos hb', if_pos hb']
          by_cases h : c = c'
          · rw [if_pos h, h]; simp
          · rw [if_neg h]; simp [h]
        · rw [if_neg hb', if_neg hb']
          by_cases h : c = c'
          · rw [if_pos h, if_pos h]
          · rw [if_neg h, if_neg h]
            by_cases h' : d = d'
            · rw [if_pos h', if_pos h']
            · rw [if_neg h', if_neg h', sIn_eq c hc.1 hc.2, sOut_eq d hd.1 hd.2, sIn_eq c' hc'.1 hc'.2, sOut_eq d' hd'.1 hd'.2]
              simp only [Option.bind_some]
              rw [sIl_eq k _ _ _ _ (by omega)]; rfl
theorem iConf_eq (k : Nat) (a b c d a' b' c' d' : Int) (hk : 41 < k) : impl_Conflict.f k a b c d a' b' c' d' = some (cfV a b c d a' b' c' d') := by
  obtain ⟨k, rfl⟩ : ∃ m, k = m + 1 := ⟨k - 1, by omega⟩
  unfold impl_Conflict.f cfV cfW
  simp only [iIsPath, Option.bind_some, impl_Conflict.j0]
  cases h1 : isPathV a b c d with
  | false => simp
  | true =>
    cases h2 : isPathV a' b' c' d' with
    | false => simp
    | true =>
      obtain ⟨_, _, hc, hd, _⟩ := (isPathV_iff a b c d).1 h1
      obtain ⟨_, _, hc', hd', _⟩ := (isPathV_iff a' b' c' d').1 h2
      simp only [if_true, Bool.true_and, Bool.false_eq_true, if_false]
      by_cases hb : b = 2
      · rw [if_pos hb, if_pos hb]
        by_cases hb' : b' = 2
        · rw [if_pos hb', if_pos (by rw [hb']; rfl), if_pos hb]
        · rw [if_neg (by rw [beq_iff_eq]; exact hb'), if_pos hb, if_neg hb']
          by_cases h : c' = c
          · rw [if_pos h, h]; simp
          · rw [if_neg h]; simp [h]
      · rw [if_neg hb, if_neg hb, if_neg hb]
        by_cases hb' : b' = 2
        · rw [if_pos hb', if_pos hb']
          by_cases h : c = c'
          · rw [if_pos h, h]; simp
          · rw [if_neg h]; simp [h]
        · rw [if_neg hb', if_neg hb', iIn_eq c hc.1 hc.2, iOut_eq d hd.1 hd.2, iIn_eq c' hc'.1 hc'.2, iOut_eq d' hd'.1 hd'.2]
          simp only [Option.bind_some]
          rw [iIl_eq k _ _ _ _ (by omega)]
          simp only [Option.bind_some]
          by_cases h : c = c'
          · rw [if_pos h, if_pos h, h, il_same]
          · rw [if_neg h, if_neg h]
            split <;> rfl

/-- Do these two paths conflict? -/
def cfP (p q : S32) : Bool := cfV p.f0 p.f1 p.f2 p.f3 q.f0 q.f1 q.f2 q.f3
def cfAll (k f t k' f' t' : Fin 4) : Bool :=
  if 1 ≤ k.val ∧ 1 ≤ k'.val then cfW (k.val : Int) (f.val : Int) (t.val : Int) (k'.val : Int) (f'.val : Int) (t'.val : Int) == cfW (k'.val : Int) (f'.val : Int) (t'.val : Int) (k.val : Int) (f.val : Int) (t.val : Int) && !(cfW (k.val : Int) (f.val : Int) (t.val : Int) (k.val : Int) (f.val : Int) (t.val : Int)) else true
theorem cfAll_true : ∀ k f t k' f' t' : Fin 4, cfAll k f t k' f' t' = true := by decide +kernel
theorem cfW_sym (k f t k' f' t' : Int) (h : (1 ≤ k ∧ k ≤ 3) ∧ (0 ≤ f ∧ f ≤ 3) ∧ (0 ≤ t ∧ t ≤ 3)) (h' : (1 ≤ k' ∧ k' ≤ 3) ∧ (0 ≤ f' ∧ f' ≤ 3) ∧ (0 ≤ t' ∧ t' ≤ 3)) : cfW k f t k' f' t' = cfW k' f' t' k f t ∧ cfW k f t k f t = false := by
  obtain ⟨k, rfl⟩ := Int.eq_ofNat_of_zero_le (show 0 ≤ k by omega)
  obtain ⟨f, rfl⟩ := Int.eq_ofNat_of_zero_le (show 0 ≤ f by omega)
  obtain ⟨t, rfl⟩ := Int.eq_ofNat_of_zero_le (show 0 ≤ t by omega)
  obtain ⟨k', rfl⟩ := Int.eq_ofNat_of_zero_le (show 0 ≤ k' by omega)
  obtain ⟨f', rfl⟩ := Int.eq_ofNat_of_zero_le (show 0 ≤ f' by omega)
  obtain ⟨t', rfl⟩ := Int.eq_ofNat_of_zero_le (show 0 ≤ t' by omega)
  have := cfAll_true ⟨k, by omega⟩ ⟨f, by omega⟩ ⟨t, by omega⟩ ⟨k', by omega⟩ ⟨f', by omega⟩ ⟨t', by omega⟩
  unfold cfAll at this
  rw [if_pos ⟨by simp only; omega, by simp only; omega⟩, Bool.and_eq_true] at this
  exact ⟨eq_of_beq this.1, by simpa using this.2⟩
theorem cfV_sym (a b c d a' b' c' d' : Int) : cfV a b c d a' b' c' d' = cfV a' b' c' d' a b c d := by
  unfold cfV
  cases h : isPathV a b c d with
  | false => cases isPathV a' b' c' d' <;> rfl
  | true =>
    cases h' : isPathV a' b' c' d' with
    | false => rfl
    | true =>
      obtain ⟨_, hb, hc, hd, _⟩ := (isPathV_iff a b c d).1 h
      obtain ⟨_, hb', hc', hd', _⟩ := (isPathV_iff a' b' c' d').1 h'
      rw [Bool.true_and, Bool.true_and]
      exact (cfW_sym b c d b' c' d' ⟨hb, hc, hd⟩ ⟨hb', hc', hd'⟩).1
theorem cfP_sym (p q : S32) : cfP p q = cfP q p := cfV_sym ..
theorem cfP_irr (p : S32) : cfP p p = false := by
  unfold cfP cfV
  cases h : isPathV p.f0 p.f1 p.f2 p.f3 with
  | false => rfl
  | true =>
    obtain ⟨_, hb, hc, hd, _⟩ := (isPathV_iff _ _ _ _).1 h
    rw [Bool.true_and, Bool.true_and]
    exact (cfW_sym _ _ _ _ _ _ ⟨hb, hc, hd⟩ ⟨hb, hc, hd⟩).2

def one (b : Bool) : Int := if b = true then 1 else 0
def cntP (p : S32) : List S32 → Int | [] => 0 | q :: r => one (cfP p q) + cntP p r
def implC : List S32 → Int | [] => 0 | p :: r => cntP p r + implC r
def specC (pre : List S32) : List S32 → Int | [] => 0 | p :: r => cntP p pre + specC (pre ++ [p]) r
def sumC (pre : List S32) : List S32 → Int | [] => 0 | p :: r => cntP p pre + sumC pre r
theorem cntP_append (p : S32) (a b : List S32) : cntP p (a ++ b) = cntP p a + cntP p b := by
  induction a with
  | nil => simp [cntP]
  | cons q r ih => simp only [List.cons_append, cntP, ih]; omega
theorem sumC_append (pre : List S32) (p : S32) (l : List S32) : sumC (pre ++ [p]) l = sumC pre l + cntP p l := by
  induction l with
  | nil => simp [sumC, cntP]
  | cons q r ih => simp only [sumC, cntP, ih, cntP_append, cfP_sym q p]; omega
theorem specC_eq (l : List S32) : ∀ pre, specC pre l = sumC pre l + implC l := by
  induction l with
  | nil => intro pre; simp [specC, sumC, implC]
  | cons p r ih => intro pre; simp only [specC, sumC, implC, ih, sumC_append]; omega
theorem sumC_nil (l : List S32) : sumC [] l = 0 := by
  induction l with
  | nil => rfl
  | cons p r ih => simp only [sumC, cntP, ih]; rfl
theorem one_bd (b : Bool) : 0 ≤ one b ∧ one b ≤ 1 := by unfold one; cases b <;> decide
theorem cntP_bd (p : S32) (l : List S32) : 0 ≤ cntP p l ∧ cntP p l ≤ l.length := by
  induction l with
  | nil => simp [cntP]
  | cons q r ih => have := one_bd (cfP p q); simp only [cntP, List.length_cons]; omega
theorem iCf (k : Nat) (p q : S32) (hk : 41 < k) : impl_Conflict.f k p.f0 p.f1 p.f2 p.f3 q.f0 q.f1 q.f2 q.f3 = some (cfP p q) := iConf_eq k _ _ _ _ _ _ _ _ hk
theorem sCf (k : Nat) (p q : S32) (hk : 41 < k) : spec_Conflict.f k p.f0 p.f1 p.f2 p.f3 q.f0 q.f1 q.f2 q.f3 = some (cfP p q) := sConf_eq k _ _ _ _ _ _ _ _ hk
def countV (l : List S32) : Int := if areV l = true then implC l else 0
theorem iCount_go (l : List S32) (hn : l.length ≤ 12) : ∀ (d k i : Nat) (c : Int), i + d = l.length → d * 20 + 60 < k → 0 ≤ c → c ≤ 12 * i →
    impl_CountConflicts.l0 k l c l (l.length : Int) (i : Int) = some (c + implC (l.drop i)) := by
  intro d
  induction d with
  | zero =>
    intro k i c hi hk _ _
    obtain ⟨k, rfl⟩ : ∃ m, k = m + 1 := ⟨k - 1, by omega⟩
    simp only [impl_CountConflicts.l0]
    rw [if_neg (by omega), List.drop_of_length_le (by omega)]; simp [implC]
  | succ d ih =>
    intro k i c hi hk c0 c1
    obtain ⟨k, rfl⟩ : ∃ m, k = m + 1 := ⟨k - 1, by omega⟩
    simp only [impl_CountConflicts.l0]
    rw [if_pos (by omega), if_pos (by omega), if_pos (by omega), wsucc (show i < l.length by omega) (by omega), if_pos (by omega), if_pos (by omega), Option.bind_some, Int.toNat_natCast, rdI_get _ _ (by omega), drop_cons l i (by omega)]
    have inner : ∀ (e k j : Nat) (c' : Int), j + e = (l.drop (i + 1)).length → e + d * 20 + 61 < k → 0 ≤ c' → c' ≤ 12 * i + j →
        impl_CountConflicts.l1 k l c' l (l.length : Int) (i : Int) (l.drop (i + 1)) ((l.drop (i + 1)).length : Int) (j : Int) (l[i]).f0 (l[i]).f1 (l[i]).f2 (l[i]).f3 = some (c' + cntP l[i] ((l.drop (i + 1)).drop j) + implC (l.drop (i + 1))) := by
      intro e
      induction e with
      | zero =>
        intro k j c' hj hk c0' c1'
        obtain ⟨k, rfl⟩ : ∃ m, k = m + 1 := ⟨k - 1, by omega⟩
        have hl : (l.drop (i + 1)).length = d := by rw [List.length_drop]; omega
        simp only [impl_CountConflicts.l1]
        rw [if_neg (by omega), List.drop_of_length_le (show (l.drop (i + 1)).length ≤ j by omega), wsucc (show i < l.length by omega) (by omega), ih k (i + 1) c' (by omega) (by omega) c0' (by omega)]
        simp [cntP]
      | succ e ihe =>
        intro k j c' hj hk c0' c1'
        obtain ⟨k, rfl⟩ : ∃ m, k = m + 1 := ⟨k - 1, by omega⟩
        have hl : (l.drop (i + 1)).length = d := by rw [List.length_drop]; omega
        simp only [impl_CountConflicts.l1]
        rw [if_pos (by omega), if_pos (by omega), if_pos (by omega), rdI_get _ _ (show j < (l.drop (i + 1)).length by omega), iCf k _ _ (by omega), Option.bind_some, wsucc (show j < (l.drop (i + 1)).length by omega) (by omega), drop_cons (l.drop (i + 1)) j (by omega)]
        simp only [cntP]
        cases hc : cfP l[i] (l.drop (i + 1))[j] with
        | true => rw [if_pos rfl, show wrap64 (c' + 1) = c' + 1 from by unfold wrap64; omega, ihe k (j + 1) (c' + 1) (by omega) (by omega) (by omega) (by omega)]; congr 1; simp only [one, if_true]; omega
        | false => rw [if_neg (by decide), ihe k (j + 1) c' (by omega) (by omega) (by omega) (by omega)]; congr 1; simp only [one, Bool.false_eq_true, if_false]; omega
    have hl : (l.drop (i + 1)).length = d := by rw [List.length_drop]; omega
    have := inner d k 0 c (by omega) (by omega) c0 (by omega)
    rw [Int.natCast_zero] at this
    rw [this, List.drop_zero]
    simp only [implC]; congr 1; omega
theorem iCount_eq (k : Nat) (l : List S32) (hk : l.length + 400 < k) (hn : l.length ≤ 1099511627776) : impl_CountConflicts.f k l = some (countV l) := by
  unfold impl_CountConflicts.f countV
  rw [iAre_eq k l (by omega) (by omega), Option.bind_some]
  by_cases ha : areV l = true
  · have hl : l.length ≤ 12 := by unfold areV at ha; rw [Bool.and_eq_true, decide_eq_true_eq] at ha; exact ha.1
    have := iCount_go l hl l.length k 0 0 (by omega) (by omega) (by omega) (by omega)
    rw [Int.natCast_zero] at this
    rw [if_pos ha, if_pos ha, this]; simp
  · rw [if_neg ha, if_neg ha]

theorem sCount_go (l : List S32) (ha : areV l = true) (hn : l.length ≤ 12) : ∀ (d k i : Nat) (c : Int), i + d = l.length → d * 20 + 80 < k → 0 ≤ c → c ≤ 12 * i →
    spec_CountConflicts.l0 k l c (i : Int) = some (c + specC (l.take i) (l.drop i)) := by
  intro d
  induction d with
  | zero =>
    intro k i c hi hk _ _
    obtain ⟨k, rfl⟩ : ∃ m, k = m + 1 + 1 := ⟨k - 2, by omega⟩
    simp only [spec_CountConflicts.l0, spec_CountConflicts.j1]
    rw [if_neg (by omega), if_neg (by decide), List.drop_of_length_le (by omega)]; simp [specC]
  | succ d ih =>
    intro k i c hi hk c0 c1
    obtain ⟨k, rfl⟩ : ∃ m, k = m + 1 + 1 := ⟨k - 2, by omega⟩
    simp only [spec_CountConflicts.l0, spec_CountConflicts.j1]
    rw [if_pos (by omega), sAre_eq (k + 1) l (by omega) (by omega), Option.bind_some, ha, if_pos rfl, drop_cons l i (by omega)]
    have inner : ∀ (e k j : Nat) (c' : Int), j + e = i → e + d * 20 + 82 < k → 0 ≤ c' → c' ≤ 12 * i + j →
        spec_CountConflicts.l1 k l c' (i : Int) (j : Int) = some (c' + cntP l[i] ((l.take i).drop j) + specC (l.take i ++ [l[i]]) (l.drop (i + 1))) := by
      intro e
      induction e with
      | zero =>
        intro k j c' hj hk c0' c1'
        obtain ⟨k, rfl⟩ : ∃ m, k = m + 1 := ⟨k - 1, by omega⟩
        simp only [spec_CountConflicts.l1]
        rw [if_neg (by omega), List.drop_of_length_le (show (l.take i).length ≤ j by rw [List.length_take]; omega), wsucc (show i < l.length by omega) (by omega), ih k (i + 1) c' (by omega) (by omega) c0' (by omega), List.take_succ_eq_append_getElem (by omega)]
        simp [cntP]
      | succ e ihe =>
        intro k j c' hj hk c0' c1'
        obtain ⟨k, rfl⟩ : ∃ m, k = m + 1 := ⟨k - 1, by omega⟩
        have hl : (l.take i).length = i := by rw [List.length_take]; omega
        simp only [spec_CountConflicts.l1]
        rw [if_pos (by omega), if_pos (by omega), if_pos (by omega), if_pos (by omega), if_pos (by omega), rdI_get _ _ (show j < l.length by omega), rdI_get _ _ (show i < l.length by omega), sCf k _ _ (by omega), Option.bind_some, wsucc (show j < i by omega) (by omega), drop_cons (l.take i) j (by omega), List.getElem_take]
        simp only [cntP]
        cases hc : cfP l[i] l[j] with
        | true => rw [if_pos rfl, show wrap64 (c' + 1) = c' + 1 from by unfold wrap64; omega, ihe k (j + 1) (c' + 1) (by omega) (by omega) (by omega) (by omega)]; congr 1; simp only [one, if_true]; omega
        | false => rw [if_neg (by decide), ihe k (j + 1) c' (by omega) (by omega) (by omega) (by omega)]; congr 1; simp only [one, Bool.false_eq_true, if_false]; omega
    have := inner i k 0 c (by omega) (by omega) c0 (by omega)
    rw [Int.natCast_zero] at this
    rw [this, List.drop_zero]
    simp only [specC]; congr 1; omega
theorem sCount_eq (k : Nat) (l : List S32) (hk : l.length + 400 < k) (hn : l.length ≤ 1099511627776) : spec_CountConflicts.f k l = some (countV l) := by
  unfold spec_CountConflicts.f countV
  by_cases ha : areV l = true
  · have hl : l.length ≤ 12 := by unfold areV at ha; rw [Bool.and_eq_true, decide_eq_true_eq] at ha; exact ha.1
    have := sCount_go l ha hl l.length k 0 0 (by omega) (by omega) (by omega) (by omega)
    rw [Int.natCast_zero] at this
    rw [if_pos ha, this, List.take_zero, List.drop_zero, specC_eq, sumC_nil]; simp
  · rw [if_neg ha]
    obtain ⟨k, rfl⟩ : ∃ m, k = m + 1 + 1 := ⟨k - 2, by omega⟩
    simp only [spec_CountConflicts.l0, spec_CountConflicts.j1]
    rw [sAre_eq (k + 1) l (by omega) (by omega), Option.bind_some]
    simp [ha]

theorem FnExactCountConflicts {l : List S30} (h : l.length * 32 ≤ 140737488351232) (_ : ∀ x ∈ l, (Lit.int .i64 x.f0).wf = true ∧ (Lit.int .i64 x.f1).wf = true ∧ (Lit.int .i64 x.f2).wf = true ∧ (Lit.int .i64 x.f3).wf = true) : ∃ k, laws_FnExactCountConflicts.f k l = some true := by
  refine ⟨l.length + 401, ?_⟩
  unfold laws_FnExactCountConflicts.f
  rw [szPathS_eq l (by omega), Option.bind_some]
  by_cases h1 : l.length ≤ 1048576
  · have e : (l.map cvP).length = l.length := by simp
    rw [if_pos h1, if_neg (by omega)]
    simp only [toPathS_eq (l.length + 401) l (by omega) (by omega), Option.bind_some, sCount_eq (l.length + 401) (l.map cvP) (by omega) (by omega), iCount_eq (l.length + 401) (l.map cvP) (by omega) (by omega), if_true, eqPathS_self (l.length + 401) (l.map cvP) (by omega) (by omega)]
  · rw [if_neg h1, if_pos (by omega)]

end Go.Proofs.Ytfglfocjoffjpaa.Pure
