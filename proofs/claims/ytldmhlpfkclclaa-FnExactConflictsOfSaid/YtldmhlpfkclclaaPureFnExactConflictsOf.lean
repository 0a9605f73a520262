/- What the row of FnExactConflictsOf leans on: for every slice of paths (that fits into memory) and every int the law answers true; no condition. -/
import Derived.Test.YtldmhlpfkclclaaQFnExactConflictsOfx10
set_option linter.unusedVariables false
set_option linter.unusedSimpArgs false
namespace Go.Proofs.Ytldmhlpfkclclaa.Pure
open Go.RowKit Go.Proofs.Ytldmhlpfkclclaa.PFnExactConflictsOf Go.Proofs.YtldmhlpfkclclaaW.PrintWords Go.Proofs.YtldmhlpfkclclaaW.PrintLast

theorem wsucc {i n : Nat} (h : i < n) (hn : n ≤ 9223372036854775807) : wrap64 ((i : Int) + 1) = ((i + 1 : Nat) : Int) := by unfold wrap64; omega
theorem rd_nat (xs : List Int) (i : Nat) : rd xs (i : Int) = xs.getD i 0 := by unfold rd; rw [Int.toNat_natCast]
theorem rd_get (xs : List Int) (i : Nat) (h : i < xs.length) : rd xs (i : Int) = xs[i] := by
  rw [rd_nat, List.getD_eq_getElem?_getD, List.getElem?_eq_getElem h]; rfl
theorem drop_cons {α : Type} (xs : List α) (i : Nat) (h : i < xs.length) : xs.drop i = xs[i] :: xs.drop (i + 1) := (List.drop_eq_getElem_cons h)
theorem set_take {α : Type} (ys : List α) (i : Nat) (v : α) (h : i < ys.length) : (ys.set i v).take (i + 1) = ys.take i ++ [v] := by
  rw [List.take_succ_eq_append_getElem (by simpa using h)]
  rw [List.take_set, List.set_eq_of_length_le (by simp; omega)]
  simp

/-- The law's path as the program's. -/
def cvP (x : S69) : S50 := ⟨x.f0, x.f1, x.f2, x.f3⟩
theorem rdL_get (xs : List S69) (i : Nat) (h : i < xs.length) : rd_T69 xs (i : Int) = xs[i] := by
  unfold rd_T69; rw [Int.toNat_natCast, List.getD_eq_getElem?_getD, List.getElem?_eq_getElem h]; rfl
theorem rdI_get (xs : List S50) (i : Nat) (h : i < xs.length) : rd_T50 xs (i : Int) = xs[i] := by
  unfold rd_T50; rw [Int.toNat_natCast, List.getD_eq_getElem?_getD, List.getElem?_eq_getElem h]; rfl
theorem toPathS_go (xs : List S69) (hn : xs.length ≤ 9223372036854775807) : ∀ (d k : Nat) (ys : List S50) (i : Nat), ys.length = xs.length → i + d = xs.length → d < k →
    laws_toPathS.l0 k xs ys (i : Int) = some (ys.take i ++ (xs.drop i).map cvP) := by
  intro d
  induction d with
  | zero =>
    intro k ys i hl hi hk
    obtain ⟨k, rfl⟩ : ∃ m, k = m + 1 := ⟨k - 1, by omega⟩
    simp only [laws_toPathS.l0]
    rw [if_neg (by omega), List.take_of_length_le (by omega), List.drop_of_length_le (by omega)]; simp
  | succ d ih =>
    intro k ys i hl hi hk
    obtain ⟨k, rfl⟩ : ∃ m, k = m + 1 := ⟨k - 1, by omega⟩
    simp only [laws_toPathS.l0, laws_toPath.f]
    rw [if_pos (by omega), if_pos (by omega), Option.bind_some, if_pos (by omega), wsucc (show i < xs.length by omega) hn, ih k _ (i + 1) (by simpa using hl) (by omega) (by omega), Int.toNat_natCast, set_take _ _ _ (by omega), rdL_get _ _ (by omega), List.append_assoc, drop_cons xs i (by omega)]
    rfl
theorem toPathS_eq (k : Nat) (l : List S69) (hk : l.length < k) (hn : l.length ≤ 8796093022208) : laws_toPathS.f k l = some (l.map cvP) := by
  unfold laws_toPathS.f
  rw [if_pos (by omega), if_pos (by omega)]
  have := toPathS_go l (by omega) l.length k (List.replicate ((l.length : Int)).toNat z50) 0 (by simp) (by omega) (by omega)
  rw [Int.natCast_zero] at this
  rw [this]; simp
theorem szPathS_eq (l : List S69) (hn : l.length ≤ 8796093022208) : laws_szPathS.f l 1048576 = some (if l.length ≤ 1048576 then 1048576 - (l.length : Int) else -1) := by
  unfold laws_szPathS.f
  have w : wrap64 (1048576 - (l.length : Int)) = 1048576 - l.length := by unfold wrap64; omega
  rw [w]
  by_cases h : l.length ≤ 1048576
  · rw [if_neg (by omega), if_pos h]
  · rw [if_pos (by omega), if_neg h]
theorem eqPath_self (a b c d : Int) : laws_eqPath.f a b c d a b c d = some true := by unfold laws_eqPath.f; simp
theorem eqPathS_go (xs : List S50) (hn : xs.length ≤ 9223372036854775807) : ∀ (d k : Nat) (i : Nat), i + d = xs.length → d < k → laws_eqPathS.l0 k xs xs (i : Int) = some true := by
  intro d
  induction d with
  | zero =>
    intro k i hi hk
    obtain ⟨k, rfl⟩ : ∃ m, k = m + 1 := ⟨k - 1, by omega⟩
    simp only [laws_eqPathS.l0]
    rw [if_neg (by omega)]
  | succ d ih =>
    intro k i hi hk
    obtain ⟨k, rfl⟩ : ∃ m, k = m + 1 := ⟨k - 1, by omega⟩
    simp only [laws_eqPathS.l0]
    rw [if_pos (by omega), if_pos (by omega), if_pos (by omega), eqPath_self, Option.bind_some, if_pos rfl, wsucc (show i < xs.length by omega) hn, ih k (i + 1) (by omega) (by omega)]
theorem eqPathS_self (k : Nat) (l : List S50) (hk : l.length < k) (hn : l.length ≤ 9223372036854775807) : laws_eqPathS.f k l l = some true := by
  unfold laws_eqPathS.f
  rw [if_pos rfl]
  have := eqPathS_go l hn l.length k 0 (by omega) hk
  rw [Int.natCast_zero] at this
  exact this

theorem in1 (a b c : Int) : spec_l1In.f a b c = some (decide (b ≤ a ∧ a ≤ c)) := by
  unfold spec_l1In.f
  by_cases h : a ≥ b
  · rw [if_pos h]; congr 1; simp only [decide_eq_decide]; omega
  · rw [if_neg h]; congr 1; symm; simp only [decide_eq_false_iff_not]; omega

theorem inr (a b c : Int) : impl_InRange.f a b c = some (decide (b ≤ a ∧ a ≤ c)) := by
  unfold impl_InRange.f
  by_cases h : b ≤ a
  · rw [if_pos h]; congr 1; simp only [decide_eq_decide]; omega
  · rw [if_neg h]; congr 1; symm; simp only [decide_eq_false_iff_not]; omega

def isPathV (a b c d : Int) : Bool := decide (1 ≤ a ∧ a ≤ 20) && (decide (1 ≤ b ∧ b ≤ 3) && (decide (0 ≤ c ∧ c ≤ 3) && (decide (0 ≤ d ∧ d ≤ 3) && ((c == d) == (b == 2)))))
theorem sIsPath (a b c d : Int) : spec_IsPath.f a b c d = some (isPathV a b c d) := by
  unfold spec_IsPath.f isPathV
  simp only [in1, Option.bind_some]
  generalize decide (1 ≤ a ∧ a ≤ 20) = p1
  generalize decide (1 ≤ b ∧ b ≤ 3) = p2
  generalize decide (0 ≤ c ∧ c ≤ 3) = p3
  generalize decide (0 ≤ d ∧ d ≤ 3) = p4
  cases p1 <;> cases p2 <;> cases p3 <;> cases p4 <;> rfl
theorem iIsPath (a b c d : Int) : impl_IsPath.f a b c d = some (isPathV a b c d) := by
  unfold impl_IsPath.f isPathV
  simp only [inr, Option.bind_some]
  generalize decide (1 ≤ a ∧ a ≤ 20) = p1
  generalize decide (1 ≤ b ∧ b ≤ 3) = p2
  generalize decide (0 ≤ c ∧ c ≤ 3) = p3
  generalize decide (0 ≤ d ∧ d ≤ 3) = p4
  cases p1 <;> cases p2 <;> cases p3 <;> cases p4 <;> rfl
theorem isPathV_iff (a b c d : Int) : isPathV a b c d = true ↔ (1 ≤ a ∧ a ≤ 20) ∧ (1 ≤ b ∧ b ≤ 3) ∧ (0 ≤ c ∧ c ≤ 3) ∧ (0 ≤ d ∧ d ≤ 3) ∧ (c = d ↔ b = 2) := by
  unfold isPathV
  simp only [Bool.and_eq_true, decide_eq_true_eq, beq_iff_eq]
  have : ((c == d) = (b == 2)) ↔ (c = d ↔ b = 2) := by
    rw [Bool.eq_iff_iff]; simp only [beq_iff_eq]
  rw [this]

def pathV (p : S50) : Bool := isPathV p.f0 p.f1 p.f2 p.f3
/-- The path at i is one, and above the one before it. -/
def okAt (l : List S50) (i : Nat) : Bool := pathV (l.getD i z50) && (decide (i = 0) || decide ((l.getD (i - 1) z50).f0 < (l.getD i z50).f0))
def arFrom (l : List S50) : Nat → Nat → Bool | 0, _ => true | d + 1, i => okAt l i && arFrom l d (i + 1)
def areV (l : List S50) : Bool := decide (l.length ≤ 12) && arFrom l l.length 0
theorem getDI (xs : List S50) (i : Nat) (h : i < xs.length) : xs.getD i z50 = xs[i] := by
  rw [List.getD_eq_getElem?_getD, List.getElem?_eq_getElem h]; rfl
theorem wpred {i : Nat} (h : 0 < i) (hi : i ≤ 9223372036854775807) : wrap64 ((i : Int) - 1) = ((i - 1 : Nat) : Int) := by unfold wrap64; omega
theorem sAre_go (l : List S50) (hn : l.length ≤ 9223372036854775807) : ∀ (d k : Nat) (i : Nat), i + d = l.length → d < k → spec_ArePaths.l0 k l (i : Int) = some (decide (l.length ≤ 12) && arFrom l d i) := by
  intro d
  induction d with
  | zero =>
    intro k i hi hk
    obtain ⟨k, rfl⟩ : ∃ m, k = m + 1 := ⟨k - 1, by omega⟩
    simp only [spec_ArePaths.l0, arFrom]
    rw [if_neg (by omega), Bool.and_true]; congr 1; rw [decide_eq_decide]; omega
  | succ d ih =>
    intro k i hi hk
    obtain ⟨k, rfl⟩ : ∃ m, k = m + 1 := ⟨k - 1, by omega⟩
    simp only [spec_ArePaths.l0, arFrom, okAt]
    rw [if_pos (by omega), if_pos (by omega), sIsPath, Option.bind_some, rdI_get _ _ (by omega), wsucc (show i < l.length by omega) hn, ih k (i + 1) (by omega) (by omega), getDI l i (by omega)]
    have hpv : isPathV (l[i]).f0 (l[i]).f1 (l[i]).f2 (l[i]).f3 = pathV l[i] := rfl
    rw [hpv]
    cases hp : pathV l[i] with
    | false => rw [if_neg (by decide), Bool.false_and, Bool.false_and, Bool.and_false]
    | true =>
      rw [if_pos rfl]
      by_cases h0 : i = 0
      · subst h0
        rw [if_neg (by omega)]; simp
      · rw [if_pos (by omega), wpred (by omega) (by omega), if_pos (by omega), if_pos (by omega), rdI_get _ _ (by omega), getDI l (i - 1) (by omega), decide_eq_false h0, Bool.false_or, Bool.true_and]
        by_cases hc : (l[i - 1]).f0 < (l[i]).f0
        · rw [if_neg (by omega), decide_eq_true hc, Bool.true_and]
        · rw [if_pos (by omega), decide_eq_false hc, Bool.false_and, Bool.and_false]
theorem sAre_eq (k : Nat) (l : List S50) (hk : l.length < k) (hn : l.length ≤ 9223372036854775807) : spec_ArePaths.f k l = some (areV l) := by
  unfold spec_ArePaths.f areV
  have := sAre_go l hn l.length k 0 (by omega) hk
  rw [Int.natCast_zero] at this
  exact this
theorem iAre_go (l : List S50) (hn : l.length ≤ 9223372036854775807) : ∀ (d k : Nat) (i : Nat), i + d = l.length → d < k → impl_ArePaths.l0 k l l (l.length : Int) (i : Int) = some (arFrom l d i) := by
  intro d
  induction d with
  | zero =>
    intro k i hi hk
    obtain ⟨k, rfl⟩ : ∃ m, k = m + 1 := ⟨k - 1, by omega⟩
    simp only [impl_ArePaths.l0, arFrom]
    rw [if_neg (by omega)]
  | succ d ih =>
    intro k i hi hk
    obtain ⟨k, rfl⟩ : ∃ m, k = m + 1 := ⟨k - 1, by omega⟩
    simp only [impl_ArePaths.l0, arFrom, okAt]
    rw [if_pos (by omega), if_pos (by omega), if_pos (by omega), iIsPath, Option.bind_some, rdI_get _ _ (by omega), wsucc (show i < l.length by omega) hn, ih k (i + 1) (by omega) (by omega), getDI l i (by omega)]
    have hpv : isPathV (l[i]).f0 (l[i]).f1 (l[i]).f2 (l[i]).f3 = pathV l[i] := rfl
    rw [hpv]
    cases hp : pathV l[i] with
    | false => rw [if_neg (by decide), Bool.false_and, Bool.false_and]
    | true =>
      rw [if_pos rfl]
      by_cases h0 : i = 0
      · subst h0
        rw [if_neg (by omega)]; simp
      · rw [if_pos (by omega), wpred (by omega) (by omega), if_pos (by omega), if_pos (by omega), rdI_get _ _ (by omega), getDI l (i - 1) (by omega), decide_eq_false h0, Bool.false_or, Bool.true_and]
        by_cases hc : (l[i - 1]).f0 < (l[i]).f0
        · rw [if_neg (by omega), decide_eq_true hc, Bool.true_and]
        · rw [if_pos (by omega), decide_eq_false hc, Bool.false_and]
theorem iAre_eq (k : Nat) (l : List S50) (hk : l.length < k) (hn : l.length ≤ 9223372036854775807) : impl_ArePaths.f k l = some (areV l) := by
  unfold impl_ArePaths.f areV
  have := iAre_go l hn l.length k 0 (by omega) hk
  rw [Int.natCast_zero] at this
  by_cases h : l.length ≤ 12
  · rw [if_neg (by omega), decide_eq_true h, Bool.true_and]; exact this
  · rw [if_pos (by omega), decide_eq_false h, Bool.false_and]
theorem arFrom_iff (l : List S50) : ∀ d i, arFrom l d i = true ↔ ∀ j, i ≤ j → j < i + d → okAt l j = true := by
  intro d
  induction d with
  | zero => intro i; simp only [arFrom, true_iff]; intro j h1 h2; omega
  | succ d ih =>
    intro i
    simp only [arFrom, Bool.and_eq_true, ih]
    constructor
    · rintro ⟨h1, h2⟩ j h3 h4
      rcases Nat.eq_or_lt_of_le h3 with rfl | h5
      · exact h1
      · exact h2 j h5 (by omega)
    · intro h; exact ⟨h i (Nat.le_refl _) (by omega), fun j h3 h4 => h j (by omega) (by omega)⟩

/-- The four numbers are different, from 0 to 7. -/
def ILv (a b c d : Int) : Prop := (0 ≤ a ∧ a ≤ 7) ∧ (0 ≤ b ∧ b ≤ 7) ∧ (0 ≤ c ∧ c ≤ 7) ∧ (0 ≤ d ∧ d ≤ 7) ∧ a ≠ b ∧ a ≠ c ∧ a ≠ d ∧ b ≠ c ∧ b ≠ d ∧ c ≠ d
theorem il_rd (a b c d : Int) : rd [a, b, c, d] 0 = a ∧ rd [a, b, c, d] 1 = b ∧ rd [a, b, c, d] 2 = c ∧ rd [a, b, c, d] 3 = d := ⟨rfl, rfl, rfl, rfl⟩
theorem il_w (i : Int) (h0 : 0 ≤ i) (h1 : i < 4) : wrap64 (i + 1) = i + 1 := by unfold wrap64; omega
theorem il_S (k : Nat) (a b c d : Int) (l : List Int) (i : Int) (h1 : i < 4) : spec_Interleave.l0 (k + 1) a b c d l i = spec_Interleave.l1 k a b c d l i 0 := by
  simp only [spec_Interleave.l0]; rw [if_pos h1]
theorem il_T (k : Nat) (a b c d : Int) (l : List Int) (hl : l.length = 4) (i j : Int) (h0 : 0 ≤ j) (h1 : j < i) (h2 : i < 4) :
    spec_Interleave.l1 (k + 1) a b c d l i j = if rd l i = rd l j then some false else spec_Interleave.l1 k a b c d l i (j + 1) := by
  simp only [spec_Interleave.l1]; rw [if_pos h1, if_pos (by omega), if_pos (by omega), if_pos h0, if_pos (by omega), il_w j h0 (by omega)]
theorem il_E (k : Nat) (a b c d : Int) (l : List Int) (hl : l.length = 4) (i : Int) (h0 : 0 ≤ i) (h2 : i < 4) :
    spec_Interleave.l1 (k + 1) a b c d l i i = if 0 ≤ rd l i ∧ rd l i ≤ 7 then spec_Interleave.l0 k a b c d l (i + 1) else some false := by
  simp only [spec_Interleave.l1]; rw [if_neg (by omega), if_pos (by omega), if_pos (by omega), in1]
  simp only [Option.bind_some, decide_eq_true_eq, il_w i h0 h2]
theorem il_spec_no (a b c d : Int) (h : ¬ ILv a b c d) : spec_Interleave.f 40 a b c d = some false := by
  obtain ⟨r0, r1, r2, r3⟩ := il_rd a b c d
  have hl : [a, b, c, d].length = 4 := rfl
  unfold spec_Interleave.f
  rw [il_S _ _ _ _ _ _ _ (by omega), il_E _ _ _ _ _ _ hl _ (by omega) (by omega), r0]
  split
  · rw [il_S _ _ _ _ _ _ _ (by omega), il_T _ _ _ _ _ _ hl _ _ (by omega) (by omega) (by omega), Int.zero_add, r0, r1]
    split
    · rfl
    · rw [il_E _ _ _ _ _ _ hl _ (by omega) (by omega), r1]
      split
      · rw [il_S _ _ _ _ _ _ _ (by omega), show (1 : Int) + 1 = 2 from rfl, il_T _ _ _ _ _ _ hl _ _ (by omega) (by omega) (by omega), Int.zero_add, r0, r2]
        split
        · rfl
        · rw [il_T _ _ _ _ _ _ hl _ _ (by omega) (by omega) (by omega), show (1 : Int) + 1 = 2 from rfl, r1, r2]
          split
          · rfl
          · rw [il_E _ _ _ _ _ _ hl _ (by omega) (by omega), r2]
            split
            · rw [il_S _ _ _ _ _ _ _ (by omega), show (2 : Int) + 1 = 3 from rfl, il_T _ _ _ _ _ _ hl _ _ (by omega) (by omega) (by omega), Int.zero_add, r0, r3]
              split
              · rfl
              · rw [il_T _ _ _ _ _ _ hl _ _ (by omega) (by omega) (by omega), show (1 : Int) + 1 = 2 from rfl, r1, r3]
                split
                · rfl
                · rw [il_T _ _ _ _ _ _ hl _ _ (by omega) (by omega) (by omega), show (2 : Int) + 1 = 3 from rfl, r2, r3]
                  split
                  · rfl
                  · rw [il_E _ _ _ _ _ _ hl _ (by omega) (by omega), r3]
                    split
                    · exfalso; apply h; unfold ILv; omega
                    · rfl
            · rfl
      · rfl
  · rfl
theorem il_R (k : Nat) (a b c d : Int) (l : List Int) (hl : l.length = 4) (n : Int) (i : Int) (h0 : 0 ≤ i) (h1 : i < n) (h2 : i < 4) :
    impl_Interleave.l0 (k + 1) a b c d l n i = if 0 ≤ rd l i ∧ rd l i ≤ 7 then impl_Interleave.l0 k a b c d l n (i + 1) else some false := by
  simp only [impl_Interleave.l0]; rw [if_pos h1, if_pos h0, if_pos (by omega), inr]
  simp only [Option.bind_some, decide_eq_true_eq, il_w i h0 h2]
theorem il_Rend (k : Nat) (a b c d : Int) (l : List Int) (n : Int) (i : Int) (h1 : ¬ i < n) (h : ¬ (a ≠ b ∧ a ≠ c ∧ a ≠ d ∧ b ≠ c ∧ b ≠ d ∧ c ≠ d)) :
    impl_Interleave.l0 (k + 1) a b c d l n i = some false := by
  simp only [impl_Interleave.l0]; rw [if_neg h1]
  repeat' split
  all_goals first | rfl | (exfalso; apply h; omega)
theorem il_impl_no (a b c d : Int) (h : ¬ ILv a b c d) : impl_Interleave.f 40 a b c d = some false := by
  obtain ⟨r0, r1, r2, r3⟩ := il_rd a b c d
  have hl : [a, b, c, d].length = 4 := rfl
  unfold impl_Interleave.f
  rw [Option.bind_some, hl]
  rw [il_R _ _ _ _ _ _ hl _ _ (by omega) (by omega) (by omega), Int.zero_add, r0]
  split
  · rw [il_R _ _ _ _ _ _ hl _ _ (by omega) (by omega) (by omega), show (1 : Int) + 1 = 2 from rfl, r1]
    split
    · rw [il_R _ _ _ _ _ _ hl _ _ (by omega) (by omega) (by omega), show (2 : Int) + 1 = 3 from rfl, r2]
      split
      · rw [il_R _ _ _ _ _ _ hl _ _ (by omega) (by omega) (by omega), show (3 : Int) + 1 = 4 from rfl, r3]
        split
        · exact il_Rend _ a b c d _ _ _ (by omega) (fun h' => h (by unfold ILv; omega))
        · rfl
      · rfl
    · rfl
  · rfl
/-- What both answer, of numbers from 0 to 7: by running both over all of them. -/
def ilW (a b c d : Int) : Bool := decide ((c - a + 8) % 8 < (b - a + 8) % 8) != decide ((d - a + 8) % 8 < (b - a + 8) % 8)
def ilBoth (a b c d : Fin 8) : Bool :=
  if a ≠ b ∧ a ≠ c ∧ a ≠ d ∧ b ≠ c ∧ b ≠ d ∧ c ≠ d then
    (spec_Interleave.f 40 (a.val : Int) (b.val : Int) (c.val : Int) (d.val : Int) == some (ilW (a.val : Int) (b.val : Int) (c.val : Int) (d.val : Int))) && (impl_Interleave.f 40 (a.val : Int) (b.val : Int) (c.val : Int) (d.val : Int) == some (ilW (a.val : Int) (b.val : Int) (c.val : Int) (d.val : Int)))
  else true
theorem ilBoth_all : ∀ a b c d : Fin 8, ilBoth a b c d = true := by decide +kernel
theorem il_yes (a b c d : Int) (h : ILv a b c d) : spec_Interleave.f 40 a b c d = some (ilW a b c d) ∧ impl_Interleave.f 40 a b c d = some (ilW a b c d) := by
  obtain ⟨⟨a0, a1⟩, ⟨b0, b1⟩, ⟨c0, c1⟩, ⟨d0, d1⟩, h1, h2, h3, h4, h5, h6⟩ := h
  obtain ⟨a, rfl⟩ := Int.eq_ofNat_of_zero_le a0
  obtain ⟨b, rfl⟩ := Int.eq_ofNat_of_zero_le b0
  obtain ⟨c, rfl⟩ := Int.eq_ofNat_of_zero_le c0
  obtain ⟨d, rfl⟩ := Int.eq_ofNat_of_zero_le d0
  have := ilBoth_all ⟨a, by omega⟩ ⟨b, by omega⟩ ⟨c, by omega⟩ ⟨d, by omega⟩
  unfold ilBoth at this
  rw [if_pos (by simp only [ne_eq, Fin.mk.injEq]; omega), Bool.and_eq_true] at this
  exact ⟨eq_of_beq this.1, eq_of_beq this.2⟩
/-- What both come to, whatever the numbers. -/
instance (a b c d : Int) : Decidable (ILv a b c d) := by unfold ILv; infer_instance
def ilV (a b c d : Int) : Bool := decide (ILv a b c d) && ilW a b c d
theorem sIl_eq (k : Nat) (a b c d : Int) (hk : 40 ≤ k) : spec_Interleave.f k a b c d = some (ilV a b c d) := by
  refine at_rounds (fun k => spec_Interleave.mono a b c d k) hk ?_
  unfold ilV
  by_cases h : ILv a b c d
  · rw [(il_yes a b c d h).1, decide_eq_true h, Bool.true_and]
  · rw [il_spec_no a b c d h, decide_eq_false h, Bool.false_and]
theorem iIl_eq (k : Nat) (a b c d : Int) (hk : 40 ≤ k) : impl_Interleave.f k a b c d = some (ilV a b c d) := by
  refine at_rounds (fun k => impl_Interleave.mono a b c d k) hk ?_
  unfold ilV
  by_cases h : ILv a b c d
  · rw [(il_yes a b c d h).2, decide_eq_true h, Bool.true_and]
  · rw [il_impl_no a b c d h, decide_eq_false h, Bool.false_and]

theorem w64 {x : Int} (h0 : -9223372036854775808 ≤ x) (h1 : x ≤ 9223372036854775807) : wrap64 x = x := by
  unfold wrap64; omega

theorem sIn_eq (a : Int) (h0 : 0 ≤ a) (h1 : a ≤ 3) : spec_InPlace.f a = some (2 * a) := by
  unfold spec_InPlace.f
  rw [in1, Option.bind_some, if_pos (by simp; omega), w64 (by omega) (by omega)]
theorem sOut_eq (a : Int) (h0 : 0 ≤ a) (h1 : a ≤ 3) : spec_OutPlace.f a = some (2 * a + 1) := by
  unfold spec_OutPlace.f
  rw [in1, Option.bind_some, if_pos (by simp; omega), w64 (x := 2 * a) (by omega) (by omega), w64 (by omega) (by omega)]
theorem iIn_eq (a : Int) (h0 : 0 ≤ a) (h1 : a ≤ 3) : impl_InPlace.f a = some (2 * a) := by
  unfold impl_InPlace.f
  rw [inr, Option.bind_some, if_pos (by simp; omega), w64 (by omega) (by omega)]
theorem iOut_eq (a : Int) (h0 : 0 ≤ a) (h1 : a ≤ 3) : impl_OutPlace.f a = some (2 * a + 1) := by
  unfold impl_OutPlace.f
  rw [inr, Option.bind_some, if_pos (by simp; omega), w64 (x := 2 * a) (by omega) (by omega), w64 (by omega) (by omega)]

/-- Do paths of these kinds, from there to there, conflict? -/
def cfW (k f t k' f' t' : Int) : Bool :=
  if k = 2 then (if k' = 2 then false else (f' == f || t' == f)) else
  if k' = 2 then (f == f' || t == f') else
  if f = f' then false else if t = t' then true else ilV (2 * f) (2 * t + 1) (2 * f') (2 * t' + 1)
def cfV (a b c d a' b' c' d' : Int) : Bool := isPathV a b c d && (isPathV a' b' c' d' && cfW b c d b' c' d')
theorem il_same (a b d : Int) : ilV a b a d = false := by
  unfold ilV; rw [decide_eq_false (by unfold ILv; omega), Bool.false_and]
theorem sConf_eq (k : Nat) (a b c d a' b' c' d' : Int) (hk : 41 < k) : spec_Conflict.f k a b c d a' b' c' d' = some (cfV a b c d a' b' c' d') := by
  obtain ⟨k, rfl⟩ : ∃ m, k = m + 1 := ⟨k - 1, by omega⟩
  unfold spec_Conflict.f cfV cfW
  simp only [sIsPath, Option.bind_some, spec_Conflict.j0]
  cases h1 : isPathV a b c d with
  | false => simp
  | true =>
    cases h2 : isPathV a' b' c' d' with
    | false => simp
    | true =>
      obtain ⟨_, _, hc, hd, _⟩ := (isPathV_iff a b c d).1 h1
      obtain ⟨_, _, hc', hd', _⟩ := (isPathV_iff a' b' c' d').1 h2
      simp only [if_true, Bool.true_and, Bool.false_eq_true, if_false]
      by_cases hb : b = 2
      · rw [if_pos hb, if_pos hb]
        by_cases hb' : b' = 2
        · rw [if_pos hb', if_pos (by rw [hb']; rfl), if_pos hb]
        · rw [if_neg (by rw [beq_iff_eq]; exact hb'), if_pos hb, if_neg hb']
          by_cases h : c' = c
          · rw [if_pos h, h]; simp
          · rw [if_neg h]; simp [h]
      · rw [if_neg hb, if_neg hb, if_neg hb]
        by_cases hb' : b' = 2
        · rw [if_pos hb', if_pos hb']
          by_cases h : c = c'
          · rw [if_pos h, h]; simp
          · rw [if_neg h]; simp [h]
        · rw [if_neg hb', if_neg hb']
          by_cases h : c = c'
          · rw [if_pos h, if_pos h]
          · rw [if_neg h, if_neg h]
            by_cases h' : d = d'
            · rw [if_pos h', if_pos h']
            · rw [if_neg h', if_neg h', sIn_eq c hc.1 hc.2, sOut_eq d hd.1 hd.2, sIn_eq c' hc'.1 hc'.2, sOut_eq d' hd'.1 hd'.2]
              simp only [Option.bind_some]
              rw [sIl_eq k _ _ _ _ (by omega)]; rfl
theorem iConf_eq (k : Nat) (a b c d a' b' c' d' : Int) (hk : 41 < k) : impl_Conflict.f k a b c d a' b' c' d' = some (cfV a b c d a' b' c' d') := by
  obtain ⟨k, rfl⟩ : ∃ m, k = m + 1 := ⟨k - 1, by omega⟩
  unfold impl_Conflict.f cfV cfW
  simp only [iIsPath, Option.bind_some, impl_Conflict.j0]
  cases h1 : isPathV a b c d with
  | false => simp
  | true =>
    cases h2 : isPathV a' b' c' d' with
    | false => simp
    | true =>
      obtain ⟨_, _, hc, hd, _⟩ := (isPathV_iff a b c d).1 h1
      obtain ⟨_, _, hc', hd', _⟩ := (isPathV_iff a' b' c' d').1 h2
      simp only [if_true, Bool.true_and, Bool.false_eq_true, if_false]
      by_cases hb : b = 2
      · rw [if_pos hb, if_pos hb]
        by_cases hb' : b' = 2
        · rw [if_pos hb', if_pos (by rw [hb']; rfl), if_pos hb]
        · rw [if_neg (by rw [beq_iff_eq]; exact hb'), if_pos hb, if_neg hb']
          by_cases h : c' = c
          · rw [if_pos h, h]; simp
          · rw [if_neg h]; simp [h]
      · rw [if_neg hb, if_neg hb, if_neg hb]
        by_cases hb' : b' = 2
        · rw [if_pos hb', if_pos hb']
          by_cases h : c = c'
          · rw [if_pos h, h]; simp
          · rw [if_neg h]; simp [h]
        · rw [if_neg hb', if_neg hb', iIn_eq c hc.1 hc.2, iOut_eq d hd.1 hd.2, iIn_eq c' hc'.1 hc'.2, iOut_eq d' hd'.1 hd'.2]
          simp only [Option.bind_some]
          rw [iIl_eq k _ _ _ _ (by omega)]
          simp only [Option.bind_some]
          by_cases h : c = c'
          · rw [if_pos h, if_pos h, h, il_same]
          · rw [if_neg h, if_neg h]
            split <;> rfl

/-- Do these two paths conflict? -/
def cfP (p q : S50) : Bool := cfV p.f0 p.f1 p.f2 p.f3 q.f0 q.f1 q.f2 q.f3
def cfAll (k f t k' f' t' : Fin 4) : Bool :=
  if 1 ≤ k.val ∧ 1 ≤ k'.val then cfW (k.val : Int) (f.val : Int) (t.val : Int) (k'.val : Int) (f'.val : Int) (t'.val : Int) == cfW (k'.val : Int) (f'.val : Int) (t'.val : Int) (k.val : Int) (f.val : Int) (t.val : Int) && !(cfW (k.val : Int) (f.val : Int) (t.val : Int) (k.val : Int) (f.val : Int) (t.val : Int)) else true
theorem cfAll_true : ∀ k f t k' f' t' : Fin 4, cfAll k f t k' f' t' = true := by decide +kernel
theorem cfW_sym (k f t k' f' t' : Int) (h : (1 ≤ k ∧ k ≤ 3) ∧ (0 ≤ f ∧ f ≤ 3) ∧ (0 ≤ t ∧ t ≤ 3)) (h' : (1 ≤ k' ∧ k' ≤ 3) ∧ (0 ≤ f' ∧ f' ≤ 3) ∧ (0 ≤ t' ∧ t' ≤ 3)) : cfW k f t k' f' t' = cfW k' f' t' k f t ∧ cfW k f t k f t = false := by
  obtain ⟨k, rfl⟩ := Int.eq_ofNat_of_zero_le (show 0 ≤ k by omega)
  obtain ⟨f, rfl⟩ := Int.eq_ofNat_of_zero_le (show 0 ≤ f by omega)
  obtain ⟨t, rfl⟩ := Int.eq_ofNat_of_zero_le (show 0 ≤ t by omega)
  obtain ⟨k', rfl⟩ := Int.eq_ofNat_of_zero_le (show 0 ≤ k' by omega)
  obtain ⟨f', rfl⟩ := Int.eq_ofNat_of_zero_le (show 0 ≤ f' by omega)
  obtain ⟨t', rfl⟩ := Int.eq_ofNat_of_zero_le (show 0 ≤ t' by omega)
  have := cfAll_true ⟨k, by omega⟩ ⟨f, by omega⟩ ⟨t, by omega⟩ ⟨k', by omega⟩ ⟨f', by omega⟩ ⟨t', by omega⟩
  unfold cfAll at this
  rw [if_pos ⟨by simp only; omega, by simp only; omega⟩, Bool.and_eq_true] at this
  exact ⟨eq_of_beq this.1, by simpa using this.2⟩
theorem cfV_sym (a b c d a' b' c' d' : Int) : cfV a b c d a' b' c' d' = cfV a' b' c' d' a b c d := by
  unfold cfV
  cases h : isPathV a b c d with
  | false => cases isPathV a' b' c' d' <;> rfl
  | true =>
    cases h' : isPathV a' b' c' d' with
    | false => rfl
    | true =>
      obtain ⟨_, hb, hc, hd, _⟩ := (isPathV_iff a b c d).1 h
      obtain ⟨_, hb', hc', hd', _⟩ := (isPathV_iff a' b' c' d').1 h'
      rw [Bool.true_and, Bool.true_and]
      exact (cfW_sym b c d b' c' d' ⟨hb, hc, hd⟩ ⟨hb', hc', hd'⟩).1
theorem cfP_sym (p q : S50) : cfP p q = cfP q p := cfV_sym ..
theorem cfP_irr (p : S50) : cfP p p = false := by
  unfold cfP cfV
  cases h : isPathV p.f0 p.f1 p.f2 p.f3 with
  | false => rfl
  | true =>
    obtain ⟨_, hb, hc, hd, _⟩ := (isPathV_iff _ _ _ _).1 h
    rw [Bool.true_and, Bool.true_and]
    exact (cfW_sym _ _ _ _ _ _ ⟨hb, hc, hd⟩ ⟨hb, hc, hd⟩).2

/-- The place of the first path with this number. -/
def findV (l : List S50) (x : Int) : Int := impl_FindPath.go l x 0
theorem go_bd (l : List S50) (x : Int) : ∀ i : Int, 0 ≤ i → (impl_FindPath.go l x i = -1 ∧ (∀ p ∈ l, p.f0 ≠ x)) ∨ (i ≤ impl_FindPath.go l x i ∧ impl_FindPath.go l x i < i + l.length ∧ (l.getD (impl_FindPath.go l x i - i).toNat z50).f0 = x) := by
  induction l with
  | nil => intro i _; left; exact ⟨rfl, by simp⟩
  | cons p r ih =>
    intro i hi
    simp only [impl_FindPath.go]
    by_cases h : p.f0 = x
    · rw [if_pos h]; right; refine ⟨by omega, by simp only [List.length_cons]; omega, ?_⟩; simp [h]
    · rw [if_neg h]
      rcases ih (i + 1) (by omega) with ⟨h1, h2⟩ | ⟨h1, h2, h3⟩
      · left; refine ⟨h1, ?_⟩
        intro q hq
        rcases List.mem_cons.1 hq with rfl | hq
        · exact h
        · exact h2 q hq
      · right
        refine ⟨by omega, by simp only [List.length_cons]; omega, ?_⟩
        have e : (impl_FindPath.go r x (i + 1) - i).toNat = (impl_FindPath.go r x (i + 1) - (i + 1)).toNat + 1 := by omega
        rw [e]; simpa using h3
theorem findV_bd (l : List S50) (x : Int) (h : 0 ≤ findV l x) : findV l x < l.length ∧ (l.getD (findV l x).toNat z50).f0 = x := by
  rcases go_bd l x 0 (by omega) with ⟨h1, _⟩ | ⟨_, h2, h3⟩
  · unfold findV at h; omega
  · unfold findV; refine ⟨by omega, ?_⟩; simpa using h3
theorem findV_neg (l : List S50) (x : Int) (h : ¬ 0 ≤ findV l x) : ∀ p ∈ l, p.f0 ≠ x := by
  rcases go_bd l x 0 (by omega) with ⟨_, h1⟩ | ⟨h1, _, _⟩
  · exact h1
  · exact absurd h1 h
/-- The path with this number. -/
def pOf (l : List S50) (x : Int) : S50 := l.getD (findV l x).toNat z50
theorem rd_find (l : List S50) (x : Int) (h : 0 ≤ findV l x) : rd_T50 l (findV l x) = pOf l x := rfl
theorem iCfq (k : Nat) (p q : S50) (hk : 41 < k) : impl_Conflict.f k p.f0 p.f1 p.f2 p.f3 q.f0 q.f1 q.f2 q.f3 = some (cfP p q) := iConf_eq k _ _ _ _ _ _ _ _ hk
theorem sCfq (k : Nat) (p q : S50) (hk : 41 < k) : spec_Conflict.f k p.f0 p.f1 p.f2 p.f3 q.f0 q.f1 q.f2 q.f3 = some (cfP p q) := sConf_eq k _ _ _ _ _ _ _ _ hk

theorem sFind_go (l : List S50) (x : Int) (hn : l.length ≤ 9223372036854775807) : ∀ (d k : Nat) (i : Nat), i + d = l.length → d < k → spec_FindPath.l0 k l x (i : Int) = some (impl_FindPath.go (l.drop i) x i) := by
  intro d
  induction d with
  | zero =>
    intro k i hi hk
    obtain ⟨k, rfl⟩ : ∃ m, k = m + 1 := ⟨k - 1, by omega⟩
    simp only [spec_FindPath.l0]
    rw [if_neg (by omega), List.drop_of_length_le (by omega)]; rfl
  | succ d ih =>
    intro k i hi hk
    obtain ⟨k, rfl⟩ : ∃ m, k = m + 1 := ⟨k - 1, by omega⟩
    simp only [spec_FindPath.l0]
    rw [if_pos (by omega), if_pos (by omega), rdI_get _ _ (by omega), wsucc (show i < l.length by omega) hn, ih k (i + 1) (by omega) (by omega), drop_cons l i (by omega)]
    simp only [impl_FindPath.go, Int.natCast_add, Int.natCast_one]
    split <;> rfl
theorem sFind_eq (k : Nat) (l : List S50) (x : Int) (hk : l.length < k) (hn : l.length ≤ 9223372036854775807) : spec_FindPath.f k l x = some (impl_FindPath.go l x 0) := by
  unfold spec_FindPath.f
  have := sFind_go l x hn l.length k 0 (by omega) hk
  rw [Int.natCast_zero] at this
  exact this

/-- The numbers of the paths that conflict with this one. -/
def confsV (l : List S50) (x : Int) : List Int := if 0 ≤ findV l x ∧ areV l = true then (l.filter fun p => cfP p (pOf l x)).map (fun p => p.f0) else []
theorem confsV_length (l : List S50) (x : Int) : (confsV l x).length ≤ l.length := by
  unfold confsV
  split
  · rw [List.length_map]; exact List.length_filter_le _ _
  · simp
theorem iConfs_go (l : List S50) (x : Int) (hl : l.length ≤ 1099511627776) (hf : 0 ≤ findV l x) : ∀ (d k i : Nat) (out : List Int), i + d = l.length → d + 42 < k → out.length ≤ i →
    impl_ConflictsOf.l0 k l out (findV l x) l (l.length : Int) (i : Int) = some (out ++ ((l.drop i).filter fun p => cfP p (pOf l x)).map (fun p => p.f0)) := by
  intro d
  induction d with
  | zero =>
    intro k i out hi hk ho
    obtain ⟨k, rfl⟩ : ∃ m, k = m + 1 := ⟨k - 1, by omega⟩
    simp only [impl_ConflictsOf.l0]
    rw [if_neg (by omega), List.drop_of_length_le (by omega)]; simp
  | succ d ih =>
    intro k i out hi hk ho
    obtain ⟨k, rfl⟩ : ∃ m, k = m + 1 := ⟨k - 1, by omega⟩
    obtain ⟨fi, _⟩ := findV_bd l x hf
    simp only [impl_ConflictsOf.l0]
    rw [if_pos (by omega), if_pos (by omega), if_pos (by omega), if_pos hf, if_pos fi, rd_find l _ hf, rdI_get l i (by omega), iCfq k _ _ (by omega), Option.bind_some, cfP_sym, wsucc (show i < l.length by omega) (by omega), drop_cons l i (by omega), List.filter_cons]
    cases hc : cfP l[i] (pOf l x) with
    | true => rw [if_pos rfl, if_pos rfl, if_pos (by omega), ih k (i + 1) _ (by omega) (by omega) (by simp; omega), List.append_assoc]; rfl
    | false => rw [if_neg (by decide), if_neg (by decide), ih k (i + 1) _ (by omega) (by omega) (by omega)]
theorem iConfs_eq (k : Nat) (l : List S50) (x : Int) (hk : l.length + 61 < k) (hl : l.length ≤ 1099511627776) : impl_ConflictsOf.f k l x = some (confsV l x) := by
  unfold impl_ConflictsOf.f confsV
  obtain ⟨k, rfl⟩ : ∃ m, k = m + 1 := ⟨k - 1, by omega⟩
  simp only [Option.bind_some, impl_FindPath.f, impl_ConflictsOf.j0]
  have e1 : impl_FindPath.go l x 0 = findV l x := rfl
  rw [e1]
  by_cases hf : 0 ≤ findV l x
  · rw [if_neg (by omega), iAre_eq (k + 1) l (by omega) (by omega), Option.bind_some]
    cases ha : areV l with
    | true =>
      have := iConfs_go l x hl hf l.length k 0 [] (by omega) (by omega) (by simp)
      rw [Int.natCast_zero] at this
      rw [if_neg (by decide), this, if_pos ⟨hf, rfl⟩]; simp
    | false => rw [if_pos (by decide), if_neg (by simp)]
  · rw [if_pos (by omega), if_pos trivial, if_neg (fun h => hf h.1)]
theorem sConfs_go (l : List S50) (x : Int) (hl : l.length ≤ 1099511627776) (hf : 0 ≤ findV l x) (ha : areV l = true) : ∀ (d k i : Nat) (out : List Int), i + d = l.length → 2 * d + l.length + 62 < k → out.length ≤ i →
    spec_ConflictsOf.l0 k l out (findV l x) (i : Int) = some (out ++ ((l.drop i).filter fun p => cfP p (pOf l x)).map (fun p => p.f0)) := by
  intro d
  induction d with
  | zero =>
    intro k i out hi hk ho
    obtain ⟨k, rfl⟩ : ∃ m, k = m + 1 + 1 := ⟨k - 2, by omega⟩
    simp only [spec_ConflictsOf.l0, spec_ConflictsOf.j1]
    rw [if_neg (by omega), if_neg (by decide), List.drop_of_length_le (by omega)]; simp
  | succ d ih =>
    intro k i out hi hk ho
    obtain ⟨k, rfl⟩ : ∃ m, k = m + 1 + 1 := ⟨k - 2, by omega⟩
    obtain ⟨fi, _⟩ := findV_bd l x hf
    simp only [spec_ConflictsOf.l0, spec_ConflictsOf.j1]
    rw [if_pos (by omega), if_pos (by omega), sAre_eq (k + 1) l (by omega) (by omega), Option.bind_some, if_pos ha, if_pos (by omega), if_pos (by omega), if_pos hf, if_pos fi, rd_find l _ hf, rdI_get l i (by omega), sCfq k _ _ (by omega), Option.bind_some, wsucc (show i < l.length by omega) (by omega), drop_cons l i (by omega), List.filter_cons]
    cases hc : cfP l[i] (pOf l x) with
    | true => rw [if_pos rfl, if_pos rfl, if_pos (by omega), ih k (i + 1) _ (by omega) (by omega) (by simp; omega), List.append_assoc]; rfl
    | false => rw [if_neg (by decide), if_neg (by decide), ih k (i + 1) _ (by omega) (by omega) (by omega)]
theorem sConfs_eq (k : Nat) (l : List S50) (x : Int) (hk : 3 * l.length + 63 < k) (hl : l.length ≤ 1099511627776) : spec_ConflictsOf.f k l x = some (confsV l x) := by
  unfold spec_ConflictsOf.f confsV
  rw [sFind_eq k l x (by omega) (by omega), Option.bind_some]
  have e1 : impl_FindPath.go l x 0 = findV l x := rfl
  rw [e1]
  by_cases h : 0 ≤ findV l x ∧ areV l = true
  · have := sConfs_go l x hl h.1 h.2 l.length k 0 [] (by omega) (by omega) (by simp)
    rw [Int.natCast_zero] at this
    rw [this, if_pos h]; simp
  · obtain ⟨k, rfl⟩ : ∃ m, k = m + 1 + 1 := ⟨k - 2, by omega⟩
    simp only [spec_ConflictsOf.l0, spec_ConflictsOf.j1]
    rw [if_neg h]
    by_cases hf : 0 ≤ findV l x
    · have ha : areV l = false := by cases hq : areV l with | true => exact absurd ⟨hf, hq⟩ h | false => rfl
      rw [sAre_eq (k + 1) l (by omega) (by omega), Option.bind_some, ha]; simp
    · rw [if_neg (show ¬ findV l x ≥ 0 by omega)]; simp

theorem markP_go : ∀ (d k : Nat) (xs : List S50) (m : Int) (i : Nat), i + d = xs.length → d < k → 0 ≤ m → m + 4 * d ≤ 9223372036854775807 → xs.length ≤ 1099511627776 → ∃ ys, laws_markPathS.l0 k xs m (i : Int) = some (m + 4 * (d : Int), ys) := by
  intro d
  induction d with
  | zero =>
    intro k xs m i hi hk h0 hm hn
    obtain ⟨k, rfl⟩ : ∃ m, k = m + 1 := ⟨k - 1, by omega⟩
    simp only [laws_markPathS.l0]
    rw [if_neg (by omega)]
    exact ⟨xs, by congr 2; omega⟩
  | succ d ih =>
    intro k xs m i hi hk h0 hm hn
    obtain ⟨k, rfl⟩ : ∃ m, k = m + 1 := ⟨k - 1, by omega⟩
    simp only [laws_markPathS.l0]
    have e : wrap64 ((wrap64 ((wrap64 ((wrap64 (m + 1)) + 1)) + 1)) + 1) = m + 4 := by unfold wrap64; omega
    rw [if_pos (by omega), if_pos (by omega), Option.bind_some, Option.bind_some, Option.bind_some, e, wsucc (show i < xs.length by omega) (by omega)]
    suffices H : ∀ zs : List S50, zs.length = xs.length → ∃ ys, laws_markPathS.l0 k zs (m + 4) ((i + 1 : Nat) : Int) = some (m + 4 * ((d + 1 : Nat) : Int), ys) from H _ (by simp)
    intro zs hz
    obtain ⟨ys, h⟩ := ih k zs (m + 4) (i + 1) (by omega) (by omega) (by omega) (by omega) (by omega)
    exact ⟨ys, by rw [h]; congr 2; omega⟩
theorem markP_eq (k : Nat) (l : List S50) (hk : l.length < k) (hn : l.length ≤ 1099511627776) : ∃ ys, laws_markPathS.f k l 1 = some (1 + 4 * (l.length : Int), ys) := by
  unfold laws_markPathS.f
  have := markP_go l.length k l 1 0 (by omega) hk (by omega) (by omega) hn
  rwa [Int.natCast_zero] at this

theorem laws_eqIntS_go (xs ys : List Int) (hl : xs.length = ys.length) (hn : xs.length ≤ 9223372036854775807) : ∀ (d k : Nat) (i : Nat), i + d = xs.length → d < k →
    laws_eqIntS.l0 k xs ys (i : Int) = some (decide (xs.drop i = ys.drop i)) := by
  intro d
  induction d with
  | zero =>
    intro k i hi hk
    obtain ⟨k, rfl⟩ : ∃ m, k = m + 1 := ⟨k - 1, by omega⟩
    simp only [laws_eqIntS.l0]
    rw [if_neg (by omega), List.drop_of_length_le (by omega), List.drop_of_length_le (by omega)]; rfl
  | succ d ih =>
    intro k i hi hk
    obtain ⟨k, rfl⟩ : ∃ m, k = m + 1 := ⟨k - 1, by omega⟩
    simp only [laws_eqIntS.l0]
    rw [if_pos (by omega), if_pos (by omega), if_pos (by omega), wsucc (show i < xs.length by omega) hn, ih k (i + 1) (by omega) (by omega), rd_get _ _ (by omega), rd_get _ _ (by omega), drop_cons xs i (by omega), drop_cons ys i (by omega)]
    split
    · rename_i h; simp only [List.cons.injEq, h, true_and]
    · rename_i h; simp only [List.cons.injEq, h, false_and, decide_false]
theorem laws_eqIntS_eq (k : Nat) (a b : List Int) (hk : a.length < k) (hn : a.length ≤ 9223372036854775807) : laws_eqIntS.f k a b = some (decide (a = b)) := by
  unfold laws_eqIntS.f
  by_cases h : a.length = b.length
  · rw [if_pos (by omega)]
    have := laws_eqIntS_go a b h hn a.length k 0 (by omega) hk
    rw [Int.natCast_zero] at this
    rw [this]; rfl
  · rw [if_neg (by omega)]; congr 1; symm; rw [decide_eq_false_iff_not]; intro e; exact h (by rw [e])

def markIntL (n : Nat) (m : Int) : List Int := (List.range n).map fun (j : Nat) => m + (j : Int)
theorem markIntS_go (m : Int) (h0 : 0 ≤ m) (n : Nat) (hm : m + n ≤ 9223372036854775807) : ∀ (d k : Nat) (ys : List Int) (i : Nat), ys.length = n → ys.take i = markIntL i m → i + d = n → d < k →
    laws_markIntS.l0 k ys (m + i) (i : Int) = some (m + n, markIntL n m) := by
  intro d
  induction d with
  | zero =>
    intro k ys i hl ht hi hk
    obtain ⟨k, rfl⟩ : ∃ m, k = m + 1 := ⟨k - 1, by omega⟩
    simp only [laws_markIntS.l0]
    obtain rfl : i = n := by omega
    rw [if_neg (by omega), ← ht, List.take_of_length_le (by omega)]
  | succ d ih =>
    intro k ys i hl ht hi hk
    obtain ⟨k, rfl⟩ : ∃ m, k = m + 1 := ⟨k - 1, by omega⟩
    simp only [laws_markIntS.l0]
    rw [if_pos (by omega), if_pos (by omega), wsucc (show i < n by omega) (by omega), Int.toNat_natCast]
    have e : wrap64 (m + (i : Int) + 1) = m + ((i + 1 : Nat) : Int) := by unfold wrap64; omega
    rw [e]
    refine ih k _ (i + 1) (by simpa using hl) ?_ (by omega) (by omega)
    rw [set_take _ _ _ (by omega), ht]; unfold markIntL
    rw [List.range_succ, List.map_append]; rfl
theorem markIntS_eq (k : Nat) (l : List Int) (m : Int) (h0 : 0 ≤ m) (hm : m + l.length ≤ 9223372036854775807) (hk : l.length < k) : laws_markIntS.f k l m = some (m + l.length, markIntL l.length m) := by
  unfold laws_markIntS.f
  have := markIntS_go m h0 l.length hm l.length k l 0 rfl (by simp [markIntL]) (by omega) hk
  rw [Int.natCast_zero, Int.add_zero] at this
  exact this

theorem markIntL_length (n : Nat) (m : Int) : (markIntL n m).length = n := by simp [markIntL]
theorem heldIntS_go (m : Int) (h0 : 0 ≤ m) (n : Nat) (hm : m + n ≤ 9223372036854775807) : ∀ (d k : Nat) (i : Nat), i + d = n → d < k →
    laws_heldIntS.l0 k (markIntL n m) (m + i) (i : Int) = some (m + n) := by
  intro d
  induction d with
  | zero =>
    intro k i hi hk
    obtain ⟨k, rfl⟩ : ∃ m, k = m + 1 := ⟨k - 1, by omega⟩
    simp only [laws_heldIntS.l0]
    obtain rfl : i = n := by omega
    rw [if_neg (by rw [markIntL_length]; omega)]
  | succ d ih =>
    intro k i hi hk
    obtain ⟨k, rfl⟩ : ∃ m, k = m + 1 := ⟨k - 1, by omega⟩
    simp only [laws_heldIntS.l0]
    have hl := markIntL_length n m
    have e : wrap64 (m + (i : Int) + 1) = m + ((i + 1 : Nat) : Int) := by unfold wrap64; omega
    have hr : rd (markIntL n m) (i : Int) = m + (i : Int) := by
      rw [rd_get _ _ (by omega)]; simp [markIntL]
    rw [if_pos (by omega), if_pos (by omega), if_pos hr, wsucc (show i < n by omega) (by omega), e]
    exact ih k (i + 1) (by omega) (by omega)
theorem heldIntS_eq (k n : Nat) (m : Int) (h0 : 0 ≤ m) (hm : m + n ≤ 9223372036854775807) (hk : n < k) : laws_heldIntS.f k (markIntL n m) m = some (m + n) := by
  unfold laws_heldIntS.f
  have := heldIntS_go m h0 n hm n k 0 (by omega) hk
  rw [Int.natCast_zero, Int.add_zero] at this
  exact this

theorem FnExactConflictsOf {l : List S69} {x : Int} (h : l.length * 32 ≤ 140737488351232) (_ : ∀ x ∈ l, (Lit.int .i64 x.f0).wf = true ∧ (Lit.int .i64 x.f1).wf = true ∧ (Lit.int .i64 x.f2).wf = true ∧ (Lit.int .i64 x.f3).wf = true) (_ : (Lit.int .i64 x).wf = true) : ∃ k, laws_FnExactConflictsOf.f k l x = some true := by
  obtain ⟨B, hB⟩ : ∃ B, B = 3 * l.length + 65 := ⟨_, rfl⟩
  refine ⟨B + 1, ?_⟩
  unfold laws_FnExactConflictsOf.f
  rw [szPathS_eq l (by omega), Option.bind_some]
  by_cases h1 : l.length ≤ 1048576
  · have e : (l.map cvP).length = l.length := by simp
    have hc := confsV_length (l.map cvP) x
    obtain ⟨ys, hm⟩ := markP_eq (B + 1) (l.map cvP) (by omega) (by omega)
    rw [if_pos h1, if_neg (by omega)]
    simp only [laws_FnExactConflictsOf.j0, toPathS_eq B l (by omega) (by omega), toPathS_eq (B + 1) l (by omega) (by omega), Option.bind_some, sConfs_eq (B + 1) (l.map cvP) x (by omega) (by omega), iConfs_eq (B + 1) (l.map cvP) x (by omega) (by omega), iConfs_eq B (l.map cvP) x (by omega) (by omega), laws_eqIntS_eq B _ (confsV (l.map cvP) x) (show (confsV (l.map cvP) x).length < B by omega) (by omega), laws_eqIntS_eq (B + 1) _ (confsV (l.map cvP) x) (show (confsV (l.map cvP) x).length < B + 1 by omega) (by omega), decide_true, if_true, eqPathS_self (B + 1) (l.map cvP) (by omega) (by omega), hm, if_neg (show ¬ 1 + 4 * ((l.map cvP).length : Int) < 0 by omega), Bool.not_true, Bool.false_eq_true, if_false, markIntS_eq B (confsV (l.map cvP) x) 1 (by omega) (by omega) (by omega), heldIntS_eq B (confsV (l.map cvP) x).length 1 (by omega) (by omega) (by omega), if_neg (show ¬ 1 + ((confsV (l.map cvP) x).length : Int) < 0 by omega)]
  · rw [if_neg h1, if_pos (by omega)]

end Go.Proofs.Ytldmhlpfkclclaa.Pure
