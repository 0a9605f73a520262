/- What the row of FnExactClearBetween leans on: for every slice of paths and every two slices of ints (that fit into memory) the law answers true; no condition. -/
import Derived.Test.YtldmhlpfkclclaaQFnExactClearBetweenx14
set_option linter.unusedVariables false
set_option linter.unusedSimpArgs false
namespace Go.Proofs.Ytldmhlpfkclclaa.Pure
open Go.RowKit Go.Proofs.Ytldmhlpfkclclaa.PFnExactClearBetween Go.Proofs.YtldmhlpfkclclaaW.PrintWords Go.Proofs.YtldmhlpfkclclaaW.PrintLast

theorem wsucc {i n : Nat} (h : i < n) (hn : n ≤ 9223372036854775807) : wrap64 ((i : Int) + 1) = ((i + 1 : Nat) : Int) := by unfold wrap64; omega
theorem rd_nat (xs : List Int) (i : Nat) : rd xs (i : Int) = xs.getD i 0 := by unfold rd; rw [Int.toNat_natCast]
theorem rd_get (xs : List Int) (i : Nat) (h : i < xs.length) : rd xs (i : Int) = xs[i] := by
  rw [rd_nat, List.getD_eq_getElem?_getD, List.getElem?_eq_getElem h]; rfl
theorem drop_cons {α : Type} (xs : List α) (i : Nat) (h : i < xs.length) : xs.drop i = xs[i] :: xs.drop (i + 1) := (List.drop_eq_getElem_cons h)
theorem set_take {α : Type} (ys : List α) (i : Nat) (v : α) (h : i < ys.length) : (ys.set i v).take (i + 1) = ys.take i ++ [v] := by
  rw [List.take_succ_eq_append_getElem (by simpa using h)]
  rw [List.take_set, List.set_eq_of_length_le (by simp; omega)]
  simp

/-- The law's path as the program's. -/
def cvP (x : S69) : S50 := ⟨x.f0, x.f1, x.f2, x.f3⟩
theorem rdL_get (xs : List S69) (i : Nat) (h : i < xs.length) : rd_T69 xs (i : Int) = xs[i] := by
  unfold rd_T69; rw [Int.toNat_natCast, List.getD_eq_getElem?_getD, List.getElem?_eq_getElem h]; rfl
theorem rdI_get (xs : List S50) (i : Nat) (h : i < xs.length) : rd_T50 xs (i : Int) = xs[i] := by
  unfold rd_T50; rw [Int.toNat_natCast, List.getD_eq_getElem?_getD, List.getElem?_eq_getElem h]; rfl
theorem toPathS_go (xs : List S69) (hn : xs.length ≤ 9223372036854775807) : ∀ (d k : Nat) (ys : List S50) (i : Nat), ys.length = xs.length → i + d = xs.length → d < k →
    laws_toPathS.l0 k xs ys (i : Int) = some (ys.take i ++ (xs.drop i).map cvP) := by
  intro d
  induction d with
  | zero =>
    intro k ys i hl hi hk
    obtain ⟨k, rfl⟩ : ∃ m, k = m + 1 := ⟨k - 1, by omega⟩
    simp only [laws_toPathS.l0]
    rw [if_neg (by omega), List.take_of_length_le (by omega), List.drop_of_length_le (by omega)]; simp
  | succ d ih =>
    intro k ys i hl hi hk
    obtain ⟨k, rfl⟩ : ∃ m, k = m + 1 := ⟨k - 1, by omega⟩
    simp only [laws_toPathS.l0, laws_toPath.f]
    rw [if_pos (by omega), if_pos (by omega), Option.bind_some, if_pos (by omega), wsucc (show i < xs.length by omega) hn, ih k _ (i + 1) (by simpa using hl) (by omega) (by omega), Int.toNat_natCast, set_take _ _ _ (by omega), rdL_get _ _ (by omega), List.append_assoc, drop_cons xs i (by omega)]
    rfl
theorem toPathS_eq (k : Nat) (l : List S69) (hk : l.length < k) (hn : l.length ≤ 8796093022208) : laws_toPathS.f k l = some (l.map cvP) := by
  unfold laws_toPathS.f
  rw [if_pos (by omega), if_pos (by omega)]
  have := toPathS_go l (by omega) l.length k (List.replicate ((l.length : Int)).toNat z50) 0 (by simp) (by omega) (by omega)
  rw [Int.natCast_zero] at this
  rw [this]; simp
theorem szPathS_eq (l : List S69) (hn : l.length ≤ 8796093022208) : laws_szPathS.f l 1048576 = some (if l.length ≤ 1048576 then 1048576 - (l.length : Int) else -1) := by
  unfold laws_szPathS.f
  have w : wrap64 (1048576 - (l.length : Int)) = 1048576 - l.length := by unfold wrap64; omega
  rw [w]
  by_cases h : l.length ≤ 1048576
  · rw [if_neg (by omega), if_pos h]
  · rw [if_pos (by omega), if_neg h]
theorem eqPath_self (a b c d : Int) : laws_eqPath.f a b c d a b c d = some true := by unfold laws_eqPath.f; simp
theorem eqPathS_go (xs : List S50) (hn : xs.length ≤ 9223372036854775807) : ∀ (d k : Nat) (i : Nat), i + d = xs.length → d < k → laws_eqPathS.l0 k xs xs (i : Int) = some true := by
  intro d
  induction d with
  | zero =>
    intro k i hi hk
    obtain ⟨k, rfl⟩ : ∃ m, k = m + 1 := ⟨k - 1, by omega⟩
    simp only [laws_eqPathS.l0]
    rw [if_neg (by omega)]
  | succ d ih =>
    intro k i hi hk
    obtain ⟨k, rfl⟩ : ∃ m, k = m + 1 := ⟨k - 1, by omega⟩
    simp only [laws_eqPathS.l0]
    rw [if_pos (by omega), if_pos (by omega), if_pos (by omega), eqPath_self, Option.bind_some, if_pos rfl, wsucc (show i < xs.length by omega) hn, ih k (i + 1) (by omega) (by omega)]
theorem eqPathS_self (k : Nat) (l : List S50) (hk : l.length < k) (hn : l.length ≤ 9223372036854775807) : laws_eqPathS.f k l l = some true := by
  unfold laws_eqPathS.f
  rw [if_pos rfl]
  have := eqPathS_go l hn l.length k 0 (by omega) hk
  rw [Int.natCast_zero] at this
  exact this

theorem in1 (a b c : Int) : spec_l1In.f a b c = some (decide (b ≤ a ∧ a ≤ c)) := by
  unfold spec_l1In.f
  by_cases h : a ≥ b
  · rw [if_pos h]; congr 1; simp only [decide_eq_decide]; omega
  · rw [if_neg h]; congr 1; symm; simp only [decide_eq_false_iff_not]; omega

theorem inr (a b c : Int) : impl_InRange.f a b c = some (decide (b ≤ a ∧ a ≤ c)) := by
  unfold impl_InRange.f
  by_cases h : b ≤ a
  · rw [if_pos h]; congr 1; simp only [decide_eq_decide]; omega
  · rw [if_neg h]; congr 1; symm; simp only [decide_eq_false_iff_not]; omega

def isPathV (a b c d : Int) : Bool := decide (1 ≤ a ∧ a ≤ 20) && (decide (1 ≤ b ∧ b ≤ 3) && (decide (0 ≤ c ∧ c ≤ 3) && (decide (0 ≤ d ∧ d ≤ 3) && ((c == d) == (b == 2)))))
theorem sIsPath (a b c d : Int) : spec_IsPath.f a b c d = some (isPathV a b c d) := by
  unfold spec_IsPath.f isPathV
  simp only [in1, Option.bind_some]
  generalize decide (1 ≤ a ∧ a ≤ 20) = p1
  generalize decide (1 ≤ b ∧ b ≤ 3) = p2
  generalize decide (0 ≤ c ∧ c ≤ 3) = p3
  generalize decide (0 ≤ d ∧ d ≤ 3) = p4
  cases p1 <;> cases p2 <;> cases p3 <;> cases p4 <;> rfl
theorem iIsPath (a b c d : Int) : impl_IsPath.f a b c d = some (isPathV a b c d) := by
  unfold impl_IsPath.f isPathV
  simp only [inr, Option.bind_some]
  generalize decide (1 ≤ a ∧ a ≤ 20) = p1
  generalize decide (1 ≤ b ∧ b ≤ 3) = p2
  generalize decide (0 ≤ c ∧ c ≤ 3) = p3
  generalize decide (0 ≤ d ∧ d ≤ 3) = p4
  cases p1 <;> cases p2 <;> cases p3 <;> cases p4 <;> rfl
theorem isPathV_iff (a b c d : Int) : isPathV a b c d = true ↔ (1 ≤ a ∧ a ≤ 20) ∧ (1 ≤ b ∧ b ≤ 3) ∧ (0 ≤ c ∧ c ≤ 3) ∧ (0 ≤ d ∧ d ≤ 3) ∧ (c = d ↔ b = 2) := by
  unfold isPathV
  simp only [Bool.and_eq_true, decide_eq_true_eq, beq_iff_eq]
  have : ((c == d) = (b == 2)) ↔ (c = d ↔ b = 2) := by
    rw [Bool.eq_iff_iff]; simp only [beq_iff_eq]
  rw [this]

def pathV (p : S50) : Bool := isPathV p.f0 p.f1 p.f2 p.f3
/-- The path at i is one, and above the one before it. -/
def okAt (l : List S50) (i : Nat) : Bool := pathV (l.getD i z50) && (decide (i = 0) || decide ((l.getD (i - 1) z50).f0 < (l.getD i z50).f0))
def arFrom (l : List S50) : Nat → Nat → Bool | 0, _ => true | d + 1, i => okAt l i && arFrom l d (i + 1)
def areV (l : List S50) : Bool := decide (l.length ≤ 12) && arFrom l l.length 0
theorem getDI (xs : List S50) (i : Nat) (h : i < xs.length) : xs.getD i z50 = xs[i] := by
  rw [List.getD_eq_getElem?_getD, List.getElem?_eq_getElem h]; rfl
theorem wpred {i : Nat} (h : 0 < i) (hi : i ≤ 9223372036854775807) : wrap64 ((i : Int) - 1) = ((i - 1 : Nat) : Int) := by unfold wrap64; omega
theorem sAre_go (l : List S50) (hn : l.length ≤ 9223372036854775807) : ∀ (d k : Nat) (i : Nat), i + d = l.length → d < k → spec_ArePaths.l0 k l (i : Int) = some (decide (l.length ≤ 12) && arFrom l d i) := by
  intro d
  induction d with
  | zero =>
    intro k i hi hk
    obtain ⟨k, rfl⟩ : ∃ m, k = m + 1 := ⟨k - 1, by omega⟩
    simp only [spec_ArePaths.l0, arFrom]
    rw [if_neg (by omega), Bool.and_true]; congr 1; rw [decide_eq_decide]; omega
  | succ d ih =>
    intro k i hi hk
    obtain ⟨k, rfl⟩ : ∃ m, k = m + 1 := ⟨k - 1, by omega⟩
    simp only [spec_ArePaths.l0, arFrom, okAt]
    rw [if_pos (by omega), if_pos (by omega), sIsPath, Option.bind_some, rdI_get _ _ (by omega), wsucc (show i < l.length by omega) hn, ih k (i + 1) (by omega) (by omega), getDI l i (by omega)]
    have hpv : isPathV (l[i]).f0 (l[i]).f1 (l[i]).f2 (l[i]).f3 = pathV l[i] := rfl
    rw [hpv]
    cases hp : pathV l[i] with
    | false => rw [if_neg (by decide), Bool.false_and, Bool.false_and, Bool.and_false]
    | true =>
      rw [if_pos rfl]
      by_cases h0 : i = 0
      · subst h0
        rw [if_neg (by omega)]; simp
      · rw [if_pos (by omega), wpred (by omega) (by omega), if_pos (by omega), if_pos (by omega), rdI_get _ _ (by omega), getDI l (i - 1) (by omega), decide_eq_false h0, Bool.false_or, Bool.true_and]
        by_cases hc : (l[i - 1]).f0 < (l[i]).f0
        · rw [if_neg (by omega), decide_eq_true hc, Bool.true_and]
        · rw [if_pos (by omega), decide_eq_false hc, Bool.false_and, Bool.and_false]
theorem sAre_eq (k : Nat) (l : List S50) (hk : l.length < k) (hn : l.length ≤ 9223372036854775807) : spec_ArePaths.f k l = some (areV l) := by
  unfold spec_ArePaths.f areV
  have := sAre_go l hn l.length k 0 (by omega) hk
  rw [Int.natCast_zero] at this
  exact this
theorem iAre_go (l : List S50) (hn : l.length ≤ 9223372036854775807) : ∀ (d k : Nat) (i : Nat), i + d = l.length → d < k → impl_ArePaths.l0 k l l (l.length : Int) (i : Int) = some (arFrom l d i) := by
  intro d
  induction d with
  | zero =>
    intro k i hi hk
    obtain ⟨k, rfl⟩ : ∃ m, k = m + 1 := ⟨k - 1, by omega⟩
    simp only [impl_ArePaths.l0, arFrom]
    rw [if_neg (by omega)]
  | succ d ih =>
    intro k i hi hk
    obtain ⟨k, rfl⟩ : ∃ m, k = m + 1 := ⟨k - 1, by omega⟩
    simp only [impl_ArePaths.l0, arFrom, okAt]
    rw [if_pos (by omega), if_pos (by omega), if_pos (by omega), iIsPath, Option.bind_some, rdI_get _ _ (by omega), wsucc (show i < l.length by omega) hn, ih k (i + 1) (by omega) (by omega), getDI l i (by omega)]
    have hpv : isPathV (l[i]).f0 (l[i]).f1 (l[i]).f2 (l[i]).f3 = pathV l[i] := rfl
    rw [hpv]
    cases hp : pathV l[i] with
    | false => rw [if_neg (by decide), Bool.false_and, Bool.false_and]
    | true =>
      rw [if_pos rfl]
      by_cases h0 : i = 0
      · subst h0
        rw [if_neg (by omega)]; simp
      · rw [if_pos (by omega), wpred (by omega) (by omega), if_pos (by omega), if_pos (by omega), rdI_get _ _ (by omega), getDI l (i - 1) (by omega), decide_eq_false h0, Bool.false_or, Bool.true_and]
        by_cases hc : (l[i - 1]).f0 < (l[i]).f0
        · rw [if_neg (by omega), decide_eq_true hc, Bool.true_and]
        · rw [if_pos (by omega), decide_eq_false hc, Bool.false_and]
theorem iAre_eq (k : Nat) (l : List S50) (hk : l.length < k) (hn : l.length ≤ 9223372036854775807) : impl_ArePaths.f k l = some (areV l) := by
  unfold impl_ArePaths.f areV
  have := iAre_go l hn l.length k 0 (by omega) hk
  rw [Int.natCast_zero] at this
  by_cases h : l.length ≤ 12
  · rw [if_neg (by omega), decide_eq_true h, Bool.true_and]; exact this
  · rw [if_pos (by omega), decide_eq_false h, Bool.false_and]
theorem arFrom_iff (l : List S50) : ∀ d i, arFrom l d i = true ↔ ∀ j, i ≤ j → j < i + d → okAt l j = true := by
  intro d
  induction d with
  | zero => intro i; simp only [arFrom, true_iff]; intro j h1 h2; omega
  | succ d ih =>
    intro i
    simp only [arFrom, Bool.and_eq_true, ih]
    constructor
    · rintro ⟨h1, h2⟩ j h3 h4
      rcases Nat.eq_or_lt_of_le h3 with rfl | h5
      · exact h1
      · exact h2 j h5 (by omega)
    · intro h; exact ⟨h i (Nat.le_refl _) (by omega), fun j h3 h4 => h j (by omega) (by omega)⟩

/-- The four numbers are different, from 0 to 7. -/
def ILv (a b c d : Int) : Prop := (0 ≤ a ∧ a ≤ 7) ∧ (0 ≤ b ∧ b ≤ 7) ∧ (0 ≤ c ∧ c ≤ 7) ∧ (0 ≤ d ∧ d ≤ 7) ∧ a ≠ b ∧ a ≠ c ∧ a ≠ d ∧ b ≠ c ∧ b ≠ d ∧ c ≠ d
theorem il_rd (a b c d : Int) : rd [a, b, c, d] 0 = a ∧ rd [a, b, c, d] 1 = b ∧ rd [a, b, c, d] 2 = c ∧ rd [a, b, c, d] 3 = d := ⟨rfl, rfl, rfl, rfl⟩
theorem il_w (i : Int) (h0 : 0 ≤ i) (h1 : i < 4) : wrap64 (i + 1) = i + 1 := by unfold wrap64; omega
theorem il_S (k : Nat) (a b c d : Int) (l : List Int) (i : Int) (h1 : i < 4) : spec_Interleave.l0 (k + 1) a b c d l i = spec_Interleave.l1 k a b c d l i 0 := by
  simp only [spec_Interleave.l0]; rw [if_pos h1]
theorem il_T (k : Nat) (a b c d : Int) (l : List Int) (hl : l.length = 4) (i j : Int) (h0 : 0 ≤ j) (h1 : j < i) (h2 : i < 4) :
    spec_Interleave.l1 (k + 1) a b c d l i j = if rd l i = rd l j then some false else spec_Interleave.l1 k a b c d l i (j + 1) := by
  simp only [spec_Interleave.l1]; rw [if_pos h1, if_pos (by omega), if_pos (by omega), if_pos h0, if_pos (by omega), il_w j h0 (by omega)]
theorem il_E (k : Nat) (a b c d : Int) (l : List Int) (hl : l.length = 4) (i : Int) (h0 : 0 ≤ i) (h2 : i < 4) :
    spec_Interleave.l1 (k + 1) a b c d l i i = if 0 ≤ rd l i ∧ rd l i ≤ 7 then spec_Interleave.l0 k a b c d l (i + 1) else some false := by
  simp only [spec_Interleave.l1]; rw [if_neg (by omega), if_pos (by omega), if_pos (by omega), in1]
  simp only [Option.bind_some, decide_eq_true_eq, il_w i h0 h2]
theorem il_spec_no (a b c d : Int) (h : ¬ ILv a b c d) : spec_Interleave.f 40 a b c d = some false := by
  obtain ⟨r0, r1, r2, r3⟩ := il_rd a b c d
  have hl : [a, b, c, d].length = 4 := rfl
  unfold spec_Interleave.f
  rw [il_S _ _ _ _ _ _ _ (by omega), il_E _ _ _ _ _ _ hl _ (by omega) (by omega), r0]
  split
  · rw [il_S _ _ _ _ _ _ _ (by omega), il_T _ _ _ _ _ _ hl _ _ (by omega) (by omega) (by omega), Int.zero_add, r0, r1]
    split
    · rfl
    · rw [il_E _ _ _ _ _ _ hl _ (by omega) (by omega), r1]
      split
      · rw [il_S _ _ _ _ _ _ _ (by omega), show (1 : Int) + 1 = 2 from rfl, il_T _ _ _ _ _ _ hl _ _ (by omega) (by omega) (by omega), Int.zero_add, r0, r2]
        split
        · rfl
        · rw [il_T _ _ _ _ _ _ hl _ _ (by omega) (by omega) (by omega), show (1 : Int) + 1 = 2 from rfl, r1, r2]
          split
          · rfl
          · rw [il_E _ _ _ _ _ _ hl _ (by omega) (by omega), r2]
            split
            · rw [il_S _ _ _ _ _ _ _ (by omega), show (2 : Int) + 1 = 3 from rfl, il_T _ _ _ _ _ _ hl _ _ (by omega) (by omega) (by omega), Int.zero_add, r0, r3]
              split
              · rfl
              · rw [il_T _ _ _ _ _ _ hl _ _ (by omega) (by omega) (by omega), show (1 : Int) + 1 = 2 from rfl, r1, r3]
                split
                · rfl
                · rw [il_T _ _ _ _ _ _ hl _ _ (by omega) (by omega) (by omega), show (2 : Int) + 1 = 3 from rfl, r2, r3]
                  split
                  · rfl
                  · rw [il_E _ _ _ _ _ _ hl _ (by omega) (by omega), r3]
                    split
                    · exfalso; apply h; unfold ILv; omega
                    · rfl
            · rfl
      · rfl
  · rfl
theorem il_R (k : Nat) (a b c d : Int) (l : List Int) (hl : l.length = 4) (n : Int) (i : Int) (h0 : 0 ≤ i) (h1 : i < n) (h2 : i < 4) :
    impl_Interleave.l0 (k + 1) a b c d l n i = if 0 ≤ rd l i ∧ rd l i ≤ 7 then impl_Interleave.l0 k a b c d l n (i + 1) else some false := by
  simp only [impl_Interleave.l0]; rw [if_pos h1, if_pos h0, if_pos (by omega), inr]
  simp only [Option.bind_some, decide_eq_true_eq, il_w i h0 h2]
theorem il_Rend (k : Nat) (a b c d : Int) (l : List Int) (n : Int) (i : Int) (h1 : ¬ i < n) (h : ¬ (a ≠ b ∧ a ≠ c ∧ a ≠ d ∧ b ≠ c ∧ b ≠ d ∧ c ≠ d)) :
    impl_Interleave.l0 (k + 1) a b c d l n i = some false := by
  simp only [impl_Interleave.l0]; rw [if_neg h1]
  repeat' split
  all_goals first | rfl | (exfalso; apply h; omega)
theorem il_impl_no (a b c d : Int) (h : ¬ ILv a b c d) : impl_Interleave.f 40 a b c d = some false := by
  obtain ⟨r0, r1, r2, r3⟩ := il_rd a b c d
  have hl : [a, b, c, d].length = 4 := rfl
  unfold impl_Interleave.f
  rw [Option.bind_some, hl]
  rw [il_R _ _ _ _ _ _ hl _ _ (by omega) (by omega) (by omega), Int.zero_add, r0]
  split
  · rw [il_R _ _ _ _ _ _ hl _ _ (by omega) (by omega) (by omega), show (1 : Int) + 1 = 2 from rfl, r1]
    split
    · rw [il_R _ _ _ _ _ _ hl _ _ (by omega) (by omega) (by omega), show (2 : Int) + 1 = 3 from rfl, r2]
      split
      · rw [il_R _ _ _ _ _ _ hl _ _ (by omega) (by omega) (by omega), show (3 : Int) + 1 = 4 from rfl, r3]
        split
        · exact il_Rend _ a b c d _ _ _ (by omega) (fun h' => h (by unfold ILv; omega))
        · rfl
      · rfl
    · rfl
  · rfl
/-- What both answer, of numbers from 0 to 7: by running both over all of them. -/
def ilW (a b c d : Int) : Bool := decide ((c - a + 8) % 8 < (b - a + 8) % 8) != decide ((d - a + 8) % 8 < (b - a + 8) % 8)
def ilBoth (a b c d : Fin 8) : Bool :=
  if a ≠ b ∧ a ≠ c ∧ a ≠ d ∧ b ≠ c ∧ b ≠ d ∧ c ≠ d then
    (spec_Interleave.f 40 (a.val : Int) (b.val : Int) (c.val : Int) (d.val : Int) == some (ilW (a.val : Int) (b.val : Int) (c.val : Int) (d.val : Int))) && (impl_Interleave.f 40 (a.val : Int) (b.val : Int) (c.val : Int) (d.val : Int) == some (ilW (a.val : Int) (b.val : Int) (c.val : Int) (d.val : Int)))
  else true
theorem ilBoth_all : ∀ a b c d : Fin 8, ilBoth a b c d = true := by decide +kernel
theorem il_yes (a b c d : Int) (h : ILv a b c d) : spec_Interleave.f 40 a b c d = some (ilW a b c d) ∧ impl_Interleave.f 40 a b c d = some (ilW a b c d) := by
  obtain ⟨⟨a0, a1⟩, ⟨b0, b1⟩, ⟨c0, c1⟩, ⟨d0, d1⟩, h1, h2, h3, h4, h5, h6⟩ := h
  obtain ⟨a, rfl⟩ := Int.eq_ofNat_of_zero_le a0
  obtain ⟨b, rfl⟩ := Int.eq_ofNat_of_zero_le b0
  obtain ⟨c, rfl⟩ := Int.eq_ofNat_of_zero_le c0
  obtain ⟨d, rfl⟩ := Int.eq_ofNat_of_zero_le d0
  have := ilBoth_all ⟨a, by omega⟩ ⟨b, by omega⟩ ⟨c, by omega⟩ ⟨d, by omega⟩
  unfold ilBoth at this
  rw [if_pos (by simp only [ne_eq, Fin.mk.injEq]; omega), Bool.and_eq_true] at this
  exact ⟨eq_of_beq this.1, eq_of_beq this.2⟩
/-- What both come to, whatever the numbers. -/
instance (a b c d : Int) : Decidable (ILv a b c d) := by unfold ILv; infer_instance
def ilV (a b c d : Int) : Bool := decide (ILv a b c d) && ilW a b c d
theorem sIl_eq (k : Nat) (a b c d : Int) (hk : 40 ≤ k) : spec_Interleave.f k a b c d = some (ilV a b c d) := by
  refine at_rounds (fun k => spec_Interleave.mono a b c d k) hk ?_
  unfold ilV
  by_cases h : ILv a b c d
  · rw [(il_yes a b c d h).1, decide_eq_true h, Bool.true_and]
  · rw [il_spec_no a b c d h, decide_eq_false h, Bool.false_and]
theorem iIl_eq (k : Nat) (a b c d : Int) (hk : 40 ≤ k) : impl_Interleave.f k a b c d = some (ilV a b c d) := by
  refine at_rounds (fun k => impl_Interleave.mono a b c d k) hk ?_
  unfold ilV
  by_cases h : ILv a b c d
  · rw [(il_yes a b c d h).2, decide_eq_true h, Bool.true_and]
  · rw [il_impl_no a b c d h, decide_eq_false h, Bool.false_and]

theorem w64 {x : Int} (h0 : -9223372036854775808 ≤ x) (h1 : x ≤ 9223372036854775807) : wrap64 x = x := by
  unfold wrap64; omega

theorem sIn_eq (a : Int) (h0 : 0 ≤ a) (h1 : a ≤ 3) : spec_InPlace.f a = some (2 * a) := by
  unfold spec_InPlace.f
  rw [in1, Option.bind_some, if_pos (by simp; omega), w64 (by omega) (by omega)]
theorem sOut_eq (a : Int) (h0 : 0 ≤ a) (h1 : a ≤ 3) : spec_OutPlace.f a = some (2 * a + 1) := by
  unfold spec_OutPlace.f
  rw [in1, Option.bind_some, if_pos (by simp; omega), w64 (x := 2 * a) (by omega) (by omega), w64 (by omega) (by omega)]
theorem iIn_eq (a : Int) (h0 : 0 ≤ a) (h1 : a ≤ 3) : impl_InPlace.f a = some (2 * a) := by
  unfold impl_InPlace.f
  rw [inr, Option.bind_some, if_pos (by simp; omega), w64 (by omega) (by omega)]
theorem iOut_eq (a : Int) (h0 : 0 ≤ a) (h1 : a ≤ 3) : impl_OutPlace.f a = some (2 * a + 1) := by
  unfold impl_OutPlace.f
  rw [inr, Option.bind_some, if_pos (by simp; omega), w64 (x := 2 * a) (by omega) (by omega), w64 (by omega) (by omega)]

/-- Do paths of these kinds, from there to there, conflict? -/
def cfW (k f t k' f' t' : Int) : Bool :=
  if k = 2 then (if k' = 2 then false else (f' == f || t' == f)) else
  if k' = 2 then (f == f' || t == f') else
  if f = f' then false else if t = t' then true else ilV (2 * f) (2 * t + 1) (2 * f') (2 * t' + 1)
def cfV (a b c d a' b' c' d' : Int) : Bool := isPathV a b c d && (isPathV a' b' c' d' && cfW b c d b' c' d')
theorem il_same (a b d : Int) : ilV a b a d = false := by
  unfold ilV; rw [decide_eq_false (by unfold ILv; omega), Bool.false_and]
theorem sConf_eq (k : Nat) (a b c d a' b' c' d' : Int) (hk : 41 < k) : spec_Conflict.f k a b c d a' b' c' d' = some (cfV a b c d a' b' c' d') := by
  obtain ⟨k, rfl⟩ : ∃ m, k = m + 1 := ⟨k - 1, by omega⟩
  unfold spec_Conflict.f cfV cfW
  simp only [sIsPath, Option.bind_some, spec_Conflict.j0]
  cases h1 : isPathV a b c d with
  | false => simp
  | true =>
    cases h2 : isPathV a' b' c' d' with
    | false => simp
    | true =>
      obtain ⟨_, _, hc, hd, _⟩ := (isPathV_iff a b c d).1 h1
      obtain ⟨_, _, hc', hd', _⟩ := (isPathV_iff a' b' c' d').1 h2
      simp only [if_true, Bool.true_and, Bool.false_eq_true, if_false]
      by_cases hb : b = 2
      · rw [if_pos hb, if_pos hb]
        by_cases hb' : b' = 2
        · rw [if_pos hb', if_pos (by rw [hb']; rfl), if_pos hb]
        · rw [if_neg (by rw [beq_iff_eq]; exact hb'), if_pos hb, if_neg hb']
          by_cases h : c' = c
          · rw [if_pos h, h]; simp
          · rw [if_neg h]; simp [h]
      · rw [if_neg hb, if_neg hb, if_neg hb]
        by_cases hb' : b' = 2
        · rw [if_pos hb', if_pos hb']
          by_cases h : c = c'
          · rw [if_pos h, h]; simp
          · rw [if_neg h]; simp [h]
        · rw [if_neg hb', if_neg hb']
          by_cases h : c = c'
          · rw [if_pos h, if_pos h]
          · rw [if_neg h, if_neg h]
            by_cases h' : d = d'
            · rw [if_pos h', if_pos h']
            · rw [if_neg h', if_neg h', sIn_eq c hc.1 hc.2, sOut_eq d hd.1 hd.2, sIn_eq c' hc'.1 hc'.2, sOut_eq d' hd'.1 hd'.2]
              simp only [Option.bind_some]
              rw [sIl_eq k _ _ _ _ (by omega)]; rfl
theorem iConf_eq (k : Nat) (a b c d a' b' c' d' : Int) (hk : 41 < k) : impl_Conflict.f k a b c d a' b' c' d' = some (cfV a b c d a' b' c' d') := by
  obtain ⟨k, rfl⟩ : ∃ m, k = m + 1 := ⟨k - 1, by omega⟩
  unfold impl_Conflict.f cfV cfW
  simp only [iIsPath, Option.bind_some, impl_Conflict.j0]
  cases h1 : isPathV a b c d with
  | false => simp
  | true =>
    cases h2 : isPathV a' b' c' d' with
    | false => simp
    | true =>
      obtain ⟨_, _, hc, hd, _⟩ := (isPathV_iff a b c d).1 h1
      obtain ⟨_, _, hc', hd', _⟩ := (isPathV_iff a' b' c' d').1 h2
      simp only [if_true, Bool.true_and, Bool.false_eq_true, if_false]
      by_cases hb : b = 2
      · rw [if_pos hb, if_pos hb]
        by_cases hb' : b' = 2
        · rw [if_pos hb', if_pos (by rw [hb']; rfl), if_pos hb]
        · rw [if_neg (by rw [beq_iff_eq]; exact hb'), if_pos hb, if_neg hb']
          by_cases h : c' = c
          · rw [if_pos h, h]; simp
          · rw [if_neg h]; simp [h]
      · rw [if_neg hb, if_neg hb, if_neg hb]
        by_cases hb' : b' = 2
        · rw [if_pos hb', if_pos hb']
          by_cases h : c = c'
          · rw [if_pos h, h]; simp
          · rw [if_neg h]; simp [h]
        · rw [if_neg hb', if_neg hb', iIn_eq c hc.1 hc.2, iOut_eq d hd.1 hd.2, iIn_eq c' hc'.1 hc'.2, iOut_eq d' hd'.1 hd'.2]
          simp only [Option.bind_some]
          rw [iIl_eq k _ _ _ _ (by omega)]
          simp only [Option.bind_some]
          by_cases h : c = c'
          · rw [if_pos h, if_pos h, h, il_same]
          · rw [if_neg h, if_neg h]
            split <;> rfl

/-- Do these two paths conflict? -/
def cfP (p q : S50) : Bool := cfV p.f0 p.f1 p.f2 p.f3 q.f0 q.f1 q.f2 q.f3
def cfAll (k f t k' f' t' : Fin 4) : Bool :=
  if 1 ≤ k.val ∧ 1 ≤ k'.val then cfW (k.val : Int) (f.val : Int) (t.val : Int) (k'.val : Int) (f'.val : Int) (t'.val : Int) == cfW (k'.val : Int) (f'.val : Int) (t'.val : Int) (k.val : Int) (f.val : Int) (t.val : Int) && !(cfW (k.val : Int) (f.val : Int) (t.val : Int) (k.val : Int) (f.val : Int) (t.val : Int)) else true
theorem cfAll_true : ∀ k f t k' f' t' : Fin 4, cfAll k f t k' f' t' = true := by decide +kernel
theorem cfW_sym (k f t k' f' t' : Int) (h : (1 ≤ k ∧ k ≤ 3) ∧ (0 ≤ f ∧ f ≤ 3) ∧ (0 ≤ t ∧ t ≤ 3)) (h' : (1 ≤ k' ∧ k' ≤ 3) ∧ (0 ≤ f' ∧ f' ≤ 3) ∧ (0 ≤ t' ∧ t' ≤ 3)) : cfW k f t k' f' t' = cfW k' f' t' k f t ∧ cfW k f t k f t = false := by
  obtain ⟨k, rfl⟩ := Int.eq_ofNat_of_zero_le (show 0 ≤ k by omega)
  obtain ⟨f, rfl⟩ := Int.eq_ofNat_of_zero_le (show 0 ≤ f by omega)
  obtain ⟨t, rfl⟩ := Int.eq_ofNat_of_zero_le (show 0 ≤ t by omega)
  obtain ⟨k', rfl⟩ := Int.eq_ofNat_of_zero_le (show 0 ≤ k' by omega)
  obtain ⟨f', rfl⟩ := Int.eq_ofNat_of_zero_le (show 0 ≤ f' by omega)
  obtain ⟨t', rfl⟩ := Int.eq_ofNat_of_zero_le (show 0 ≤ t' by omega)
  have := cfAll_true ⟨k, by omega⟩ ⟨f, by omega⟩ ⟨t, by omega⟩ ⟨k', by omega⟩ ⟨f', by omega⟩ ⟨t', by omega⟩
  unfold cfAll at this
  rw [if_pos ⟨by simp only; omega, by simp only; omega⟩, Bool.and_eq_true] at this
  exact ⟨eq_of_beq this.1, by simpa using this.2⟩
theorem cfV_sym (a b c d a' b' c' d' : Int) : cfV a b c d a' b' c' d' = cfV a' b' c' d' a b c d := by
  unfold cfV
  cases h : isPathV a b c d with
  | false => cases isPathV a' b' c' d' <;> rfl
  | true =>
    cases h' : isPathV a' b' c' d' with
    | false => rfl
    | true =>
      obtain ⟨_, hb, hc, hd, _⟩ := (isPathV_iff a b c d).1 h
      obtain ⟨_, hb', hc', hd', _⟩ := (isPathV_iff a' b' c' d').1 h'
      rw [Bool.true_and, Bool.true_and]
      exact (cfW_sym b c d b' c' d' ⟨hb, hc, hd⟩ ⟨hb', hc', hd'⟩).1
theorem cfP_sym (p q : S50) : cfP p q = cfP q p := cfV_sym ..
theorem cfP_irr (p : S50) : cfP p p = false := by
  unfold cfP cfV
  cases h : isPathV p.f0 p.f1 p.f2 p.f3 with
  | false => rfl
  | true =>
    obtain ⟨_, hb, hc, hd, _⟩ := (isPathV_iff _ _ _ _).1 h
    rw [Bool.true_and, Bool.true_and]
    exact (cfW_sym _ _ _ _ _ _ ⟨hb, hc, hd⟩ ⟨hb, hc, hd⟩).2

/-- The place of the first path with this number. -/
def findV (l : List S50) (x : Int) : Int := impl_FindPath.go l x 0
theorem go_bd (l : List S50) (x : Int) : ∀ i : Int, 0 ≤ i → (impl_FindPath.go l x i = -1 ∧ (∀ p ∈ l, p.f0 ≠ x)) ∨ (i ≤ impl_FindPath.go l x i ∧ impl_FindPath.go l x i < i + l.length ∧ (l.getD (impl_FindPath.go l x i - i).toNat z50).f0 = x) := by
  induction l with
  | nil => intro i _; left; exact ⟨rfl, by simp⟩
  | cons p r ih =>
    intro i hi
    simp only [impl_FindPath.go]
    by_cases h : p.f0 = x
    · rw [if_pos h]; right; refine ⟨by omega, by simp only [List.length_cons]; omega, ?_⟩; simp [h]
    · rw [if_neg h]
      rcases ih (i + 1) (by omega) with ⟨h1, h2⟩ | ⟨h1, h2, h3⟩
      · left; refine ⟨h1, ?_⟩
        intro q hq
        rcases List.mem_cons.1 hq with rfl | hq
        · exact h
        · exact h2 q hq
      · right
        refine ⟨by omega, by simp only [List.length_cons]; omega, ?_⟩
        have e : (impl_FindPath.go r x (i + 1) - i).toNat = (impl_FindPath.go r x (i + 1) - (i + 1)).toNat + 1 := by omega
        rw [e]; simpa using h3
theorem findV_bd (l : List S50) (x : Int) (h : 0 ≤ findV l x) : findV l x < l.length ∧ (l.getD (findV l x).toNat z50).f0 = x := by
  rcases go_bd l x 0 (by omega) with ⟨h1, _⟩ | ⟨_, h2, h3⟩
  · unfold findV at h; omega
  · unfold findV; refine ⟨by omega, ?_⟩; simpa using h3
theorem findV_neg (l : List S50) (x : Int) (h : ¬ 0 ≤ findV l x) : ∀ p ∈ l, p.f0 ≠ x := by
  rcases go_bd l x 0 (by omega) with ⟨_, h1⟩ | ⟨h1, _, _⟩
  · exact h1
  · exact absurd h1 h
/-- The path with this number. -/
def pOf (l : List S50) (x : Int) : S50 := l.getD (findV l x).toNat z50
theorem rd_find (l : List S50) (x : Int) (h : 0 ≤ findV l x) : rd_T50 l (findV l x) = pOf l x := rfl
theorem iCfq (k : Nat) (p q : S50) (hk : 41 < k) : impl_Conflict.f k p.f0 p.f1 p.f2 p.f3 q.f0 q.f1 q.f2 q.f3 = some (cfP p q) := iConf_eq k _ _ _ _ _ _ _ _ hk
theorem sCfq (k : Nat) (p q : S50) (hk : 41 < k) : spec_Conflict.f k p.f0 p.f1 p.f2 p.f3 q.f0 q.f1 q.f2 q.f3 = some (cfP p q) := sConf_eq k _ _ _ _ _ _ _ _ hk

/-- Does p conflict with none of the e numbers from j on? -/
def frFrom (l : List S50) (p : S50) (ids : List Int) : Nat → Nat → Bool | 0, _ => true | e + 1, j => !cfP p (pOf l (ids.getD j 0)) && frFrom l p ids e (j + 1)
def tgAt (l : List S50) (ids : List Int) (i : Nat) : Bool := decide (0 ≤ findV l (ids.getD i 0)) && ((decide (i = 0) || decide (ids.getD (i - 1) 0 < ids.getD i 0)) && frFrom l (pOf l (ids.getD i 0)) ids i 0)
def tgFrom (l : List S50) (ids : List Int) : Nat → Nat → Bool | 0, _ => true | d + 1, i => tgAt l ids i && tgFrom l ids d (i + 1)
def togV (l : List S50) (ids : List Int) : Bool := areV l && tgFrom l ids ids.length 0
theorem iTog_go (l : List S50) (ids : List Int) (hl : l.length ≤ 12) (hn : ids.length ≤ 1099511627776) : ∀ (d k i : Nat), i + d = ids.length → d * (ids.length + 4) + l.length + 60 < k → (∀ j, j < i → 0 ≤ findV l (ids.getD j 0)) →
    impl_IsTogether.l0 k l ids ids (ids.length : Int) (i : Int) = some (tgFrom l ids d i) := by
  intro d
  induction d with
  | zero =>
    intro k i hi hk hf
    obtain ⟨k, rfl⟩ : ∃ m, k = m + 1 := ⟨k - 1, by omega⟩
    simp only [impl_IsTogether.l0, tgFrom]
    rw [if_neg (by omega)]
  | succ d ih =>
    intro k i hi hk hf
    rw [Nat.succ_mul] at hk
    obtain ⟨k, rfl⟩ : ∃ m, k = m + 1 + 1 := ⟨k - 2, by omega⟩
    have hg : rd ids (i : Int) = ids.getD i 0 := rd_nat _ _
    have inner : ∀ (e k j : Nat), j + e = i → e + d * (ids.length + 4) + l.length + 61 < k → 0 ≤ findV l (ids.getD i 0) →
        impl_IsTogether.l1 k l ids (findV l (ids.getD i 0)) ids (ids.length : Int) (i : Int) (ids.take i) (i : Int) (j : Int) = some (frFrom l (pOf l (ids.getD i 0)) ids e j && tgFrom l ids d (i + 1)) := by
      intro e
      induction e with
      | zero =>
        intro k j hj hk hfi
        obtain ⟨k, rfl⟩ : ∃ m, k = m + 1 := ⟨k - 1, by omega⟩
        simp only [impl_IsTogether.l1, frFrom]
        rw [if_neg (by omega), Bool.true_and, wsucc (show i < ids.length by omega) (by omega)]
        refine ih k (i + 1) (by omega) (by omega) (fun j hj => ?_)
        rcases Nat.lt_succ_iff_lt_or_eq.1 hj with h | rfl
        · exact hf j h
        · exact hfi
      | succ e ihe =>
        intro k j hj hk hfi
        obtain ⟨k, rfl⟩ : ∃ m, k = m + 1 := ⟨k - 1, by omega⟩
        have hlt : (ids.take i).length = i := by rw [List.length_take]; omega
        obtain ⟨fi, _⟩ := findV_bd l _ hfi
        obtain ⟨fj, _⟩ := findV_bd l _ (hf j (by omega))
        simp only [impl_IsTogether.l1, frFrom, impl_FindPath.f]
        have hr : rd (ids.take i) (j : Int) = ids.getD j 0 := by
          rw [rd_nat, List.getD_eq_getElem?_getD, List.getD_eq_getElem?_getD, List.getElem?_take, if_pos (by omega)]
        rw [if_pos (by omega), if_pos (by omega), if_pos (by omega), if_pos hfi, if_pos fi, Option.bind_some, hr]
        have hfj := hf j (by omega)
        have e1 : impl_FindPath.go l (ids.getD j 0) 0 = findV l (ids.getD j 0) := rfl
        rw [e1, if_pos hfj, if_pos fj, rd_find l _ hfi, rd_find l _ hfj, iCfq k _ _ (by omega), Option.bind_some, wsucc (show j < i by omega) (by omega)]
        cases hc : cfP (pOf l (ids.getD i 0)) (pOf l (ids.getD j 0)) with
        | true => rw [if_pos rfl]; rfl
        | false => rw [if_neg (by decide), ihe k (j + 1) (by omega) (by omega) hfi]; rfl
    simp only [impl_IsTogether.l0, impl_IsTogether.j1, tgFrom, tgAt, impl_FindPath.f]
    rw [if_pos (by omega), if_pos (by omega), if_pos (by omega), Option.bind_some, hg]
    have e1 : impl_FindPath.go l (ids.getD i 0) 0 = findV l (ids.getD i 0) := rfl
    have hti : (ids.take i).length = i := by rw [List.length_take]; omega
    rw [e1, Int.toNat_natCast, hti]
    by_cases hfi : 0 ≤ findV l (ids.getD i 0)
    · rw [if_neg (by omega), decide_eq_true hfi, Bool.true_and]
      have hin := inner i k 0 (by omega) (by omega) hfi
      rw [Int.natCast_zero] at hin
      by_cases h0 : i = 0
      · rw [if_neg (by omega), if_neg (by decide), if_pos (by omega), if_pos (by omega), hin, decide_eq_true h0, Bool.true_or, Bool.true_and]
      · rw [if_pos (by omega), wpred (by omega) (by omega), if_pos (by omega), if_pos (by omega), rd_nat, decide_eq_false h0, Bool.false_or]
        by_cases hc : ids.getD (i - 1) 0 < ids.getD i 0
        · rw [decide_eq_false (by omega), if_neg (by decide), if_pos (by omega), if_pos (by omega), hin, decide_eq_true hc, Bool.true_and]
        · rw [decide_eq_true (by omega), if_pos rfl, decide_eq_false hc]; rfl
    · rw [if_pos (by omega), decide_eq_false hfi]; simp
theorem iTog_eq (k : Nat) (l : List S50) (ids : List Int) (hk : ids.length * (ids.length + 4) + l.length + 60 < k) (hl : l.length ≤ 1099511627776) (hn : ids.length ≤ 1099511627776) : impl_IsTogether.f k l ids = some (togV l ids) := by
  unfold impl_IsTogether.f togV
  rw [iAre_eq k l (by omega) (by omega), Option.bind_some]
  by_cases ha : areV l = true
  · have h12 : l.length ≤ 12 := by unfold areV at ha; rw [Bool.and_eq_true, decide_eq_true_eq] at ha; exact ha.1
    have := iTog_go l ids h12 hn ids.length k 0 (by omega) hk (fun j hj => absurd hj (by omega))
    rw [Int.natCast_zero] at this
    rw [if_pos ha, ha, Bool.true_and]; exact this
  · rw [if_neg ha]; simp only [Bool.not_eq_true] at ha; rw [ha]; rfl

theorem sFind_go (l : List S50) (x : Int) (hn : l.length ≤ 9223372036854775807) : ∀ (d k : Nat) (i : Nat), i + d = l.length → d < k → spec_FindPath.l0 k l x (i : Int) = some (impl_FindPath.go (l.drop i) x i) := by
  intro d
  induction d with
  | zero =>
    intro k i hi hk
    obtain ⟨k, rfl⟩ : ∃ m, k = m + 1 := ⟨k - 1, by omega⟩
    simp only [spec_FindPath.l0]
    rw [if_neg (by omega), List.drop_of_length_le (by omega)]; rfl
  | succ d ih =>
    intro k i hi hk
    obtain ⟨k, rfl⟩ : ∃ m, k = m + 1 := ⟨k - 1, by omega⟩
    simp only [spec_FindPath.l0]
    rw [if_pos (by omega), if_pos (by omega), rdI_get _ _ (by omega), wsucc (show i < l.length by omega) hn, ih k (i + 1) (by omega) (by omega), drop_cons l i (by omega)]
    simp only [impl_FindPath.go, Int.natCast_add, Int.natCast_one]
    split <;> rfl
theorem sFind_eq (k : Nat) (l : List S50) (x : Int) (hk : l.length < k) (hn : l.length ≤ 9223372036854775807) : spec_FindPath.f k l x = some (impl_FindPath.go l x 0) := by
  unfold spec_FindPath.f
  have := sFind_go l x hn l.length k 0 (by omega) hk
  rw [Int.natCast_zero] at this
  exact this

theorem sTog_go (l : List S50) (ids : List Int) (hl : l.length ≤ 1099511627776) (hn : ids.length ≤ 1099511627776) : ∀ (d k i : Nat), i + d = ids.length → d * (ids.length + 4) + l.length + 60 < k → (∀ j, j < i → 0 ≤ findV l (ids.getD j 0)) →
    spec_IsTogether.l0 k l ids (i : Int) = some (tgFrom l ids d i && areV l) := by
  intro d
  induction d with
  | zero =>
    intro k i hi hk hf
    obtain ⟨k, rfl⟩ : ∃ m, k = m + 1 := ⟨k - 1, by omega⟩
    simp only [spec_IsTogether.l0, tgFrom]
    rw [if_neg (by omega), sAre_eq k l (by omega) (by omega), Bool.true_and]; rfl
  | succ d ih =>
    intro k i hi hk hf
    rw [Nat.succ_mul] at hk
    obtain ⟨k, rfl⟩ : ∃ m, k = m + 1 + 1 := ⟨k - 2, by omega⟩
    have hg : rd ids (i : Int) = ids.getD i 0 := rd_nat _ _
    have inner : ∀ (e k j : Nat), j + e = i → e + d * (ids.length + 4) + l.length + 61 < k → 0 ≤ findV l (ids.getD i 0) →
        spec_IsTogether.l1 k l ids (i : Int) (findV l (ids.getD i 0)) (j : Int) = some (frFrom l (pOf l (ids.getD i 0)) ids e j && (tgFrom l ids d (i + 1) && areV l)) := by
      intro e
      induction e with
      | zero =>
        intro k j hj hk hfi
        obtain ⟨k, rfl⟩ : ∃ m, k = m + 1 := ⟨k - 1, by omega⟩
        simp only [spec_IsTogether.l1, frFrom]
        rw [if_neg (by omega), Bool.true_and, wsucc (show i < ids.length by omega) (by omega)]
        refine ih k (i + 1) (by omega) (by omega) (fun j hj => ?_)
        rcases Nat.lt_succ_iff_lt_or_eq.1 hj with h | rfl
        · exact hf j h
        · exact hfi
      | succ e ihe =>
        intro k j hj hk hfi
        obtain ⟨k, rfl⟩ : ∃ m, k = m + 1 := ⟨k - 1, by omega⟩
        obtain ⟨fi, _⟩ := findV_bd l _ hfi
        have hfj := hf j (by omega)
        obtain ⟨fj, _⟩ := findV_bd l _ hfj
        simp only [spec_IsTogether.l1, frFrom]
        have e1 : impl_FindPath.go l (ids.getD j 0) 0 = findV l (ids.getD j 0) := rfl
        rw [if_pos (by omega), if_pos hfi, if_pos fi, if_pos (by omega), if_pos (by omega), rd_nat, sFind_eq k l _ (by omega) (by omega), Option.bind_some, e1, if_pos hfj, if_pos fj, rd_find l _ hfi, rd_find l _ hfj, sCfq k _ _ (by omega), Option.bind_some, wsucc (show j < i by omega) (by omega)]
        cases hc : cfP (pOf l (ids.getD i 0)) (pOf l (ids.getD j 0)) with
        | true => rw [if_pos rfl]; rfl
        | false => rw [if_neg (by decide), ihe k (j + 1) (by omega) (by omega) hfi]; rfl
    simp only [spec_IsTogether.l0, spec_IsTogether.j1, tgFrom, tgAt]
    have e1 : impl_FindPath.go l (ids.getD i 0) 0 = findV l (ids.getD i 0) := rfl
    rw [if_pos (by omega), if_pos (by omega), hg, sFind_eq (k + 1) l _ (by omega) (by omega), Option.bind_some, e1]
    by_cases hfi : 0 ≤ findV l (ids.getD i 0)
    · rw [if_neg (by omega), decide_eq_true hfi, Bool.true_and]
      have hin := inner i k 0 (by omega) (by omega) hfi
      rw [Int.natCast_zero] at hin
      by_cases h0 : i = 0
      · rw [if_neg (by omega), if_neg (by decide), hin, decide_eq_true h0, Bool.true_or, Bool.true_and, Bool.and_assoc]
      · rw [if_pos (by omega), wpred (by omega) (by omega), if_pos (by omega), if_pos (by omega), rd_nat, decide_eq_false h0, Bool.false_or]
        by_cases hc : ids.getD (i - 1) 0 < ids.getD i 0
        · rw [decide_eq_false (by omega), if_neg (by decide), hin, decide_eq_true hc, Bool.true_and, Bool.and_assoc]
        · rw [decide_eq_true (by omega), if_pos rfl, decide_eq_false hc]; rfl
    · rw [if_pos (by omega), decide_eq_false hfi]; simp
theorem sTog_eq (k : Nat) (l : List S50) (ids : List Int) (hk : ids.length * (ids.length + 4) + l.length + 60 < k) (hl : l.length ≤ 1099511627776) (hn : ids.length ≤ 1099511627776) : spec_IsTogether.f k l ids = some (togV l ids) := by
  unfold spec_IsTogether.f togV
  have := sTog_go l ids hl hn ids.length k 0 (by omega) hk (fun j hj => absurd hj (by omega))
  rw [Int.natCast_zero] at this
  rw [this, Bool.and_comm]

theorem index_go (xs : List Int) (n : Int) (hn : xs.length ≤ 9223372036854775807) : ∀ (d k : Nat) (i : Nat), i + d = xs.length → d < k →
    ∃ r, slices_Index_int_int.l0 k xs n (xs.length : Int) (i : Int) = some r ∧ (0 ≤ r ↔ n ∈ xs.drop i) := by
  intro d
  induction d with
  | zero =>
    intro k i hi hk
    obtain ⟨k, rfl⟩ : ∃ m, k = m + 1 := ⟨k - 1, by omega⟩
    simp only [slices_Index_int_int.l0]
    rw [if_neg (by omega), List.drop_of_length_le (by omega)]
    exact ⟨-1, rfl, by simp⟩
  | succ d ih =>
    intro k i hi hk
    obtain ⟨k, rfl⟩ : ∃ m, k = m + 1 := ⟨k - 1, by omega⟩
    simp only [slices_Index_int_int.l0]
    rw [if_pos (by omega), if_pos (by omega), if_pos (by omega), rd_get _ _ (by omega), wsucc (show i < xs.length by omega) hn, drop_cons xs i (by omega)]
    by_cases h : n = xs[i]
    · rw [if_pos h]; exact ⟨_, rfl, by simp only [List.mem_cons, ← h, true_or, iff_true]; omega⟩
    · rw [if_neg h]
      obtain ⟨r, hr, hiff⟩ := ih k (i + 1) (by omega) (by omega)
      exact ⟨r, hr, by rw [hiff]; simp only [List.mem_cons, h, false_or]⟩
theorem contains_eq (k : Nat) (l : List Int) (n : Int) (hk : l.length < k) (hn : l.length ≤ 9223372036854775807) : slices_Contains_int_int.f k l n = some (decide (n ∈ l)) := by
  unfold slices_Contains_int_int.f slices_Index_int_int.f
  obtain ⟨r, hr, hiff⟩ := index_go l n hn l.length k 0 (by omega) hk
  rw [Int.natCast_zero] at hr
  rw [hr, Option.bind_some]
  congr 1
  rw [decide_eq_decide]
  simpa using hiff

theorem sieve_go (xs ys : List Int) (b : Bool) (hn : xs.length ≤ 1099511627776) (hy : ys.length ≤ 1099511627776) : ∀ (d k : Nat) (i : Nat) (out : List Int), i + d = xs.length → d + ys.length + 1 < k → out.length ≤ i →
    impl_sieve.l0 k ys b out xs (xs.length : Int) (i : Int) = some (out ++ (xs.drop i).filter fun x => decide (x ∈ ys) == b) := by
  intro d
  induction d with
  | zero =>
    intro k i out hi hk ho
    obtain ⟨k, rfl⟩ : ∃ m, k = m + 1 := ⟨k - 1, by omega⟩
    simp only [impl_sieve.l0]
    rw [if_neg (by omega), List.drop_of_length_le (by omega)]; simp
  | succ d ih =>
    intro k i out hi hk ho
    obtain ⟨k, rfl⟩ : ∃ m, k = m + 1 := ⟨k - 1, by omega⟩
    simp only [impl_sieve.l0]
    rw [if_pos (by omega), if_pos (by omega), if_pos (by omega), rd_get _ _ (by omega), contains_eq k ys _ (by omega) (by omega), Option.bind_some, wsucc (show i < xs.length by omega) (by omega), drop_cons xs i (by omega), List.filter_cons]
    by_cases h : (decide (xs[i] ∈ ys) == b) = true
    · rw [if_pos h, if_pos h, if_pos (by omega), ih k (i + 1) _ (by omega) (by omega) (by simp; omega), List.append_assoc]; rfl
    · rw [if_neg h, if_neg h, ih k (i + 1) _ (by omega) (by omega) (by omega)]
theorem sieve_eq (k : Nat) (l m : List Int) (b : Bool) (hk : l.length + m.length + 1 < k) (hn : l.length ≤ 1099511627776) (hy : m.length ≤ 1099511627776) : impl_sieve.f k l m b = some (l.filter fun x => decide (x ∈ m) == b) := by
  unfold impl_sieve.f
  have := sieve_go l m b hn hy l.length k 0 [] (by omega) hk (by simp)
  rw [Int.natCast_zero] at this
  rw [this]; rfl

theorem has_go (xs : List Int) (n : Int) (hn : xs.length ≤ 9223372036854775807) : ∀ (d k : Nat) (i : Nat), i + d = xs.length → d < k → spec_l6Has.l0 k xs n (i : Int) = some (decide (n ∈ xs.drop i)) := by
  intro d
  induction d with
  | zero =>
    intro k i hi hk
    obtain ⟨k, rfl⟩ : ∃ m, k = m + 1 := ⟨k - 1, by omega⟩
    simp only [spec_l6Has.l0]
    rw [if_neg (by omega), List.drop_of_length_le (by omega)]; simp
  | succ d ih =>
    intro k i hi hk
    obtain ⟨k, rfl⟩ : ∃ m, k = m + 1 := ⟨k - 1, by omega⟩
    simp only [spec_l6Has.l0]
    rw [if_pos (by omega), if_pos (by omega), rd_get _ _ (by omega), wsucc (show i < xs.length by omega) hn, ih k (i + 1) (by omega) (by omega), drop_cons xs i (by omega)]
    by_cases h : xs[i] = n
    · rw [if_pos h]; simp only [List.mem_cons, h, true_or, decide_true]
    · rw [if_neg h]; simp only [List.mem_cons, Ne.symm h, false_or]
theorem has_eq (k : Nat) (l : List Int) (n : Int) (hk : l.length < k) (hn : l.length ≤ 9223372036854775807) : spec_l6Has.f k l n = some (decide (n ∈ l)) := by
  unfold spec_l6Has.f
  have := has_go l n hn l.length k 0 (by omega) hk
  rw [Int.natCast_zero] at this
  rw [this]; rfl

theorem sCloses_go (xs ys : List Int) (hn : xs.length ≤ 1099511627776) (hy : ys.length ≤ 1099511627776) : ∀ (d k : Nat) (i : Nat) (out : List Int), i + d = xs.length → d + ys.length + 1 < k → out.length ≤ i →
    spec_Closes.l0 k xs ys out (i : Int) = some (out ++ (xs.drop i).filter fun x => decide (x ∈ ys) == false) := by
  intro d
  induction d with
  | zero =>
    intro k i out hi hk ho
    obtain ⟨k, rfl⟩ : ∃ m, k = m + 1 := ⟨k - 1, by omega⟩
    simp only [spec_Closes.l0]
    rw [if_neg (by omega), List.drop_of_length_le (by omega)]; simp
  | succ d ih =>
    intro k i out hi hk ho
    obtain ⟨k, rfl⟩ : ∃ m, k = m + 1 := ⟨k - 1, by omega⟩
    simp only [spec_Closes.l0]
    rw [if_pos (by omega), if_pos (by omega), rd_get _ _ (by omega), has_eq k ys _ (by omega) (by omega), Option.bind_some, wsucc (show i < xs.length by omega) (by omega), drop_cons xs i (by omega), List.filter_cons]
    by_cases h : xs[i] ∈ ys
    · rw [if_pos (decide_eq_true h), ih k (i + 1) _ (by omega) (by omega) (by omega), if_neg (by simp [h])]
    · rw [if_neg (by rw [decide_eq_false h]; decide), if_pos (by omega), ih k (i + 1) _ (by omega) (by omega) (by simp; omega), List.append_assoc, if_pos (by simp [h])]; rfl
theorem sCloses_eq (k : Nat) (l m : List Int) (hk : l.length + m.length + 1 < k) (hn : l.length ≤ 1099511627776) (hy : m.length ≤ 1099511627776) : spec_Closes.f k l m = some (l.filter fun x => decide (x ∈ m) == false) := by
  unfold spec_Closes.f
  have := sCloses_go l m hn hy l.length k 0 [] (by omega) hk (by simp)
  rw [Int.natCast_zero] at this
  rw [this]; rfl
theorem iCloses_eq (k : Nat) (l m : List Int) (hk : l.length + m.length + 1 < k) (hn : l.length ≤ 1099511627776) (hy : m.length ≤ 1099511627776) : impl_Closes.f k l m = some (l.filter fun x => decide (x ∈ m) == false) := by
  unfold impl_Closes.f
  rw [sieve_eq k l m false hk hn hy]; rfl

def clearV (a b c d : Int) : Int := if isPathV a b c d = true then (if b = 1 then 2 else if b = 3 then 3 else 5) else 0
theorem iClearOf (a b c d : Int) : impl_ClearOf.f a b c d = some (clearV a b c d) := by
  unfold impl_ClearOf.f clearV
  rw [iIsPath, Option.bind_some]
  split
  · split
    · rfl
    · split <;> rfl
  · rfl
theorem sClearOf (a b c d : Int) : spec_ClearOf.f a b c d = some (clearV a b c d) := by
  unfold spec_ClearOf.f clearV
  rw [sIsPath, Option.bind_some]
  split
  · rename_i h
    obtain ⟨_, ⟨b1, b3⟩, _⟩ := (isPathV_iff a b c d).1 h
    rw [Option.bind_some, if_pos (by omega), if_pos (by simp; omega)]
    obtain rfl | rfl | rfl : b = 1 ∨ b = 2 ∨ b = 3 := by omega
    · rfl
    · rfl
    · rfl
  · rfl

theorem sMax_eq (a b : Int) : spec_Max.f a b = some (mx a b) := by
  unfold spec_Max.f mx
  by_cases h : b > a
  · rw [if_pos h, if_pos h]
  · rw [if_neg h, if_neg h]

def clP (p : S50) : Int := clearV p.f0 p.f1 p.f2 p.f3
/-- The best clearing between the path x and the paths ys, from m on. -/
def cIn (l : List S50) (x : Int) (ys : List Int) (m : Int) : Int := ys.foldl (fun m y => if cfP (pOf l x) (pOf l y) = true then mx m (clP (pOf l x)) else m) m
def cOut (l : List S50) (xs ys : List Int) (m : Int) : Int := xs.foldl (fun m x => cIn l x ys m) m
theorem tgFrom_find (l : List S50) (ids : List Int) : ∀ (d i : Nat), i + d = ids.length → tgFrom l ids d i = true → ∀ x ∈ ids.drop i, 0 ≤ findV l x := by
  intro d
  induction d with
  | zero => intro i hi _ x hx; rw [List.drop_of_length_le (by omega)] at hx; simp at hx
  | succ d ih =>
    intro i hi h x hx
    simp only [tgFrom, tgAt, Bool.and_eq_true, decide_eq_true_eq] at h
    rw [drop_cons ids i (by omega)] at hx
    rcases List.mem_cons.1 hx with rfl | hx
    · have := h.1.1
      rwa [List.getD_eq_getElem?_getD, List.getElem?_eq_getElem (by omega)] at this
    · exact ih (i + 1) (by omega) h.2 x hx
theorem togV_find (l : List S50) (ids : List Int) (h : togV l ids = true) : ∀ x ∈ ids, 0 ≤ findV l x := by
  unfold togV at h
  rw [Bool.and_eq_true] at h
  have := tgFrom_find l ids ids.length 0 (by omega) h.2
  simpa using this
theorem iCB_go (l : List S50) (m1 m2 xs ys : List Int) (hxl : xs.length ≤ 1099511627776) (hyl : ys.length ≤ 1099511627776) (hcl : ∀ k, m1.length + m2.length + 1 < k → impl_Closes.f k m2 m1 = some ys) (hx : ∀ x ∈ xs, 0 ≤ findV l x) (hy : ∀ x ∈ ys, 0 ≤ findV l x) : ∀ (d k i : Nat) (m : Int), i + d = xs.length → d * (ys.length + 2) + m1.length + m2.length + 62 < k →
    impl_ClearBetween.l0 k l m1 m2 m xs (xs.length : Int) (i : Int) = some (cOut l (xs.drop i) ys m) := by
  intro d
  induction d with
  | zero =>
    intro k i m hi hk
    obtain ⟨k, rfl⟩ : ∃ m, k = m + 1 := ⟨k - 1, by omega⟩
    simp only [impl_ClearBetween.l0]
    rw [if_neg (by omega), List.drop_of_length_le (by omega)]; rfl
  | succ d ih =>
    intro k i m hi hk
    rw [Nat.succ_mul] at hk
    obtain ⟨k, rfl⟩ : ∃ m, k = m + 1 := ⟨k - 1, by omega⟩
    have hxi : 0 ≤ findV l xs[i] := hx _ (List.getElem_mem _)
    obtain ⟨fi, _⟩ := findV_bd l _ hxi
    have inner : ∀ (e k j : Nat) (m : Int), j + e = ys.length → e + d * (ys.length + 2) + m1.length + m2.length + 63 < k →
        impl_ClearBetween.l1 k l m1 m2 m xs[i] xs (xs.length : Int) (i : Int) ys (ys.length : Int) (j : Int) = some (cOut l (xs.drop (i + 1)) ys (cIn l xs[i] (ys.drop j) m)) := by
      intro e
      induction e with
      | zero =>
        intro k j m hj hk
        obtain ⟨k, rfl⟩ : ∃ m, k = m + 1 := ⟨k - 1, by omega⟩
        simp only [impl_ClearBetween.l1]
        rw [if_neg (by omega), wsucc (show i < xs.length by omega) (by omega), ih k (i + 1) m (by omega) (by omega), List.drop_of_length_le (show ys.length ≤ j by omega)]; rfl
      | succ e ihe =>
        intro k j m hj hk
        obtain ⟨k, rfl⟩ : ∃ m, k = m + 1 := ⟨k - 1, by omega⟩
        have hyj : 0 ≤ findV l ys[j] := hy _ (List.getElem_mem _)
        obtain ⟨fj, _⟩ := findV_bd l _ hyj
        have e1 : ∀ x, impl_FindPath.go l x 0 = findV l x := fun _ => rfl
        simp only [impl_ClearBetween.l1, impl_FindPath.f, e1]
        rw [if_pos (by omega), if_pos (by omega), if_pos (by omega), Option.bind_some, if_pos hxi, if_pos fi, rd_get ys j (by omega), Option.bind_some, if_pos hyj, if_pos fj, rd_find l _ hxi, rd_find l _ hyj, iCfq k _ _ (by omega), Option.bind_some, iClearOf, Option.bind_some, wsucc (show j < ys.length by omega) (by omega), drop_cons ys j (by omega)]
        show _ = some (cOut l (xs.drop (i + 1)) ys (cIn l xs[i] (ys.drop (j + 1)) (if cfP (pOf l xs[i]) (pOf l ys[j]) = true then mx m (clP (pOf l xs[i])) else m)))
        cases hc : cfP (pOf l xs[i]) (pOf l ys[j]) with
        | true => rw [if_pos rfl, if_pos rfl, ← ihe k (j + 1) _ (by omega) (by omega)]; rfl
        | false => rw [if_neg (by decide), if_neg (by decide), ihe k (j + 1) _ (by omega) (by omega)]
    simp only [impl_ClearBetween.l0]
    have hin := inner ys.length k 0 m (by omega) (by omega)
    rw [Int.natCast_zero, List.drop_zero] at hin
    rw [if_pos (by omega), if_pos (by omega), if_pos (by omega), hcl k (by omega), Option.bind_some, rd_get xs i (by omega), hin, drop_cons xs i (by omega)]
    rfl
theorem sCB_go (l : List S50) (m1 m2 xs ys : List Int) (hl : l.length ≤ 1099511627776) (h1l : m1.length ≤ 1099511627776) (h2l : m2.length ≤ 1099511627776) (hxl : xs.length ≤ 1099511627776) (hyl : ys.length ≤ 1099511627776) (ht1 : togV l m1 = true) (ht2 : togV l m2 = true) (hx : ∀ x ∈ xs, 0 ≤ findV l x) (hy : ∀ x ∈ ys, 0 ≤ findV l x) : ∀ (d k i : Nat) (m : Int), i + d = xs.length → d * (ys.length + 3) + m1.length * (m1.length + 4) + m2.length * (m2.length + 4) + l.length + 62 < k →
    spec_ClearBetween.l0 k l m1 m2 m xs ys (i : Int) = some (cOut l (xs.drop i) ys m) := by
  obtain ⟨Q1, hQ1⟩ : ∃ Q, Q = m1.length * (m1.length + 4) := ⟨_, rfl⟩
  obtain ⟨Q2, hQ2⟩ : ∃ Q, Q = m2.length * (m2.length + 4) := ⟨_, rfl⟩
  intro d
  induction d with
  | zero =>
    intro k i m hi hk
    obtain ⟨k, rfl⟩ : ∃ m, k = m + 1 + 1 := ⟨k - 2, by omega⟩
    simp only [spec_ClearBetween.l0, spec_ClearBetween.j1]
    rw [if_neg (by omega), if_neg (by decide), List.drop_of_length_le (by omega)]; rfl
  | succ d ih =>
    intro k i m hi hk
    rw [Nat.succ_mul] at hk
    rw [← hQ1, ← hQ2] at hk ih
    obtain ⟨k, rfl⟩ : ∃ m, k = m + 1 + 1 := ⟨k - 2, by omega⟩
    have hxi : 0 ≤ findV l xs[i] := hx _ (List.getElem_mem _)
    obtain ⟨fi, _⟩ := findV_bd l _ hxi
    have inner : ∀ (e k j : Nat) (m : Int), j + e = ys.length → e + d * (ys.length + 3) + Q1 + Q2 + l.length + 63 < k →
        spec_ClearBetween.l1 k l m1 m2 m xs ys (i : Int) (j : Int) = some (cOut l (xs.drop (i + 1)) ys (cIn l xs[i] (ys.drop j) m)) := by
      intro e
      induction e with
      | zero =>
        intro k j m hj hk
        obtain ⟨k, rfl⟩ : ∃ m, k = m + 1 := ⟨k - 1, by omega⟩
        simp only [spec_ClearBetween.l1]
        rw [if_neg (by omega), wsucc (show i < xs.length by omega) (by omega), ih k (i + 1) m (by omega) (by omega), List.drop_of_length_le (show ys.length ≤ j by omega)]; rfl
      | succ e ihe =>
        intro k j m hj hk
        obtain ⟨k, rfl⟩ : ∃ m, k = m + 1 := ⟨k - 1, by omega⟩
        have hyj : 0 ≤ findV l ys[j] := hy _ (List.getElem_mem _)
        obtain ⟨fj, _⟩ := findV_bd l _ hyj
        have e1 : ∀ x, impl_FindPath.go l x 0 = findV l x := fun _ => rfl
        simp only [spec_ClearBetween.l1]
        rw [if_pos (by omega), if_pos (by omega), if_pos (by omega), rd_get xs i (by omega), sFind_eq k l _ (by omega) (by omega), Option.bind_some, e1, if_pos hxi, if_pos fi, if_pos (by omega), rd_get ys j (by omega), sFind_eq k l _ (by omega) (by omega), Option.bind_some, e1, if_pos hyj, if_pos fj, rd_find l _ hxi, rd_find l _ hyj, sCfq k _ _ (by omega), Option.bind_some, sClearOf, Option.bind_some, sMax_eq, Option.bind_some, wsucc (show j < ys.length by omega) (by omega), drop_cons ys j (by omega)]
        show _ = some (cOut l (xs.drop (i + 1)) ys (cIn l xs[i] (ys.drop (j + 1)) (if cfP (pOf l xs[i]) (pOf l ys[j]) = true then mx m (clP (pOf l xs[i])) else m)))
        cases hc : cfP (pOf l xs[i]) (pOf l ys[j]) with
        | true => rw [if_pos rfl, if_pos rfl, ← ihe k (j + 1) _ (by omega) (by omega)]; rfl
        | false => rw [if_neg (by decide), if_neg (by decide), ihe k (j + 1) _ (by omega) (by omega)]
    simp only [spec_ClearBetween.l0, spec_ClearBetween.j1]
    have hin := inner ys.length k 0 m (by omega) (by omega)
    rw [Int.natCast_zero, List.drop_zero] at hin
    rw [if_pos (by omega), sTog_eq (k + 1) l m1 (by omega) hl h1l, Option.bind_some, if_pos ht1, sTog_eq (k + 1) l m2 (by omega) hl h2l, Option.bind_some, if_pos ht2, hin, drop_cons xs i (by omega)]
    rfl
def cbV (l : List S50) (a b : List Int) : Int := if togV l a = true ∧ togV l b = true then cOut l (a.filter fun x => decide (x ∈ b) == false) (b.filter fun x => decide (x ∈ a) == false) 0 else 0
theorem iCB_eq (k : Nat) (l : List S50) (a b : List Int) (hk : a.length * (b.length + 2) + a.length * (a.length + 4) + b.length * (b.length + 4) + l.length + a.length + b.length + 63 < k) (hl : l.length ≤ 1099511627776) (ha : a.length ≤ 1099511627776) (hb : b.length ≤ 1099511627776) : impl_ClearBetween.f k l a b = some (cbV l a b) := by
  obtain ⟨Q1, hQ1⟩ : ∃ Q, Q = a.length * (a.length + 4) := ⟨_, rfl⟩
  obtain ⟨Q2, hQ2⟩ : ∃ Q, Q = b.length * (b.length + 4) := ⟨_, rfl⟩
  obtain ⟨Q3, hQ3⟩ : ∃ Q, Q = a.length * (b.length + 2) := ⟨_, rfl⟩
  rw [← hQ1, ← hQ2, ← hQ3] at hk
  unfold impl_ClearBetween.f cbV
  obtain ⟨k, rfl⟩ : ∃ m, k = m + 1 := ⟨k - 1, by omega⟩
  rw [iTog_eq (k + 1) l a (by omega) hl ha, Option.bind_some]
  simp only [impl_ClearBetween.j0]
  by_cases h1 : togV l a = true
  · rw [if_pos h1, iTog_eq (k + 1) l b (by omega) hl hb, Option.bind_some]
    by_cases h2 : togV l b = true
    · rw [if_pos (show togV l a = true ∧ togV l b = true from ⟨h1, h2⟩), h2, if_neg (show ¬ (!true) = true by decide), iCloses_eq k a b (by omega) ha hb, Option.bind_some]
      have w1 : (a.filter fun x => decide (x ∈ b) == false).length ≤ a.length := List.length_filter_le _ _
      have w2 : (b.filter fun x => decide (x ∈ a) == false).length ≤ b.length := List.length_filter_le _ _
      have w3 : (a.filter fun x => decide (x ∈ b) == false).length * ((b.filter fun x => decide (x ∈ a) == false).length + 2) ≤ Q3 := by rw [hQ3]; exact Nat.mul_le_mul w1 (by omega)
      have := iCB_go l a b (a.filter fun x => decide (x ∈ b) == false) (b.filter fun x => decide (x ∈ a) == false) (by omega) (by omega) (fun k hk => iCloses_eq k b a (by omega) hb ha) (fun x hx => togV_find l a h1 x (List.mem_filter.1 hx).1) (fun x hx => togV_find l b h2 x (List.mem_filter.1 hx).1) _ k 0 0 (Nat.zero_add _) (by omega)
      rw [Int.natCast_zero, List.drop_zero] at this
      exact this
    · simp only [Bool.not_eq_true] at h2; rw [h2, if_pos (show (!false) = true by decide), if_neg (by simp)]
  · rw [if_neg h1, if_pos trivial, if_neg (fun h => h1 h.1)]
theorem sCB_eq (k : Nat) (l : List S50) (a b : List Int) (hk : a.length * (b.length + 3) + a.length * (a.length + 4) + b.length * (b.length + 4) + l.length + a.length + b.length + 63 < k) (hl : l.length ≤ 1099511627776) (ha : a.length ≤ 1099511627776) (hb : b.length ≤ 1099511627776) : spec_ClearBetween.f k l a b = some (cbV l a b) := by
  obtain ⟨Q1, hQ1⟩ : ∃ Q, Q = a.length * (a.length + 4) := ⟨_, rfl⟩
  obtain ⟨Q2, hQ2⟩ : ∃ Q, Q = b.length * (b.length + 4) := ⟨_, rfl⟩
  obtain ⟨Q3, hQ3⟩ : ∃ Q, Q = a.length * (b.length + 3) := ⟨_, rfl⟩
  rw [← hQ1, ← hQ2, ← hQ3] at hk
  unfold spec_ClearBetween.f cbV
  have w1 : (a.filter fun x => decide (x ∈ b) == false).length ≤ a.length := List.length_filter_le _ _
  have w2 : (b.filter fun x => decide (x ∈ a) == false).length ≤ b.length := List.length_filter_le _ _
  have w3 : (a.filter fun x => decide (x ∈ b) == false).length * ((b.filter fun x => decide (x ∈ a) == false).length + 3) ≤ Q3 := by rw [hQ3]; exact Nat.mul_le_mul w1 (by omega)
  rw [sCloses_eq k a b (by omega) ha hb, Option.bind_some, sCloses_eq k b a (by omega) hb ha, Option.bind_some]
  by_cases h : togV l a = true ∧ togV l b = true
  · rw [if_pos h]
    have := sCB_go l a b (a.filter fun x => decide (x ∈ b) == false) (b.filter fun x => decide (x ∈ a) == false) hl ha hb (by omega) (by omega) h.1 h.2 (fun x hx => togV_find l a h.1 x (List.mem_filter.1 hx).1) (fun x hx => togV_find l b h.2 x (List.mem_filter.1 hx).1) _ k 0 0 (Nat.zero_add _) (by omega)
    rw [Int.natCast_zero, List.drop_zero] at this
    exact this
  · rw [if_neg h]
    obtain ⟨k, rfl⟩ : ∃ m, k = m + 1 + 1 := ⟨k - 2, by omega⟩
    simp only [spec_ClearBetween.l0, spec_ClearBetween.j1]
    rw [sTog_eq (k + 1) l a (by omega) hl ha, Option.bind_some, sTog_eq (k + 1) l b (by omega) hl hb]
    simp only [Option.bind_some]
    by_cases h1 : togV l a = true
    · have h2 : togV l b = false := by cases hq : togV l b with | true => exact absurd ⟨h1, hq⟩ h | false => rfl
      rw [h2]; simp
    · rw [if_neg h1]; simp

theorem toIntS_go (xs : List Int) (hn : xs.length ≤ 9223372036854775807) : ∀ (d k : Nat) (ys : List Int) (i : Nat), ys.length = xs.length → i + d = xs.length → d < k →
    laws_toIntS.l0 k xs ys (i : Int) = some (ys.take i ++ xs.drop i) := by
  intro d
  induction d with
  | zero =>
    intro k ys i hl hi hk
    obtain ⟨k, rfl⟩ : ∃ m, k = m + 1 := ⟨k - 1, by omega⟩
    simp only [laws_toIntS.l0]
    rw [if_neg (by omega), List.take_of_length_le (by omega), List.drop_of_length_le (by omega), List.append_nil]
  | succ d ih =>
    intro k ys i hl hi hk
    obtain ⟨k, rfl⟩ : ∃ m, k = m + 1 := ⟨k - 1, by omega⟩
    simp only [laws_toIntS.l0]
    rw [if_pos (by omega), if_pos (by omega), if_pos (by omega), wsucc (show i < xs.length by omega) hn, ih k _ (i + 1) (by simpa using hl) (by omega) (by omega), Int.toNat_natCast, set_take _ _ _ (by omega), rd_get _ _ (by omega), List.append_assoc, drop_cons xs i (by omega)]
    rfl
theorem toIntS_eq (k : Nat) (l : List Int) (hk : l.length < k) (hn : l.length ≤ 35184372088832) : laws_toIntS.f k l = some l := by
  unfold laws_toIntS.f
  rw [if_pos (by omega), if_pos (by omega)]
  have := toIntS_go l (by omega) l.length k (List.replicate ((l.length : Int)).toNat 0) 0 (by simp) (by omega) (by omega)
  rw [Int.natCast_zero] at this
  rw [this]; simp

theorem laws_eqIntS_go (xs ys : List Int) (hl : xs.length = ys.length) (hn : xs.length ≤ 9223372036854775807) : ∀ (d k : Nat) (i : Nat), i + d = xs.length → d < k →
    laws_eqIntS.l0 k xs ys (i : Int) = some (decide (xs.drop i = ys.drop i)) := by
  intro d
  induction d with
  | zero =>
    intro k i hi hk
    obtain ⟨k, rfl⟩ : ∃ m, k = m + 1 := ⟨k - 1, by omega⟩
    simp only [laws_eqIntS.l0]
    rw [if_neg (by omega), List.drop_of_length_le (by omega), List.drop_of_length_le (by omega)]; rfl
  | succ d ih =>
    intro k i hi hk
    obtain ⟨k, rfl⟩ : ∃ m, k = m + 1 := ⟨k - 1, by omega⟩
    simp only [laws_eqIntS.l0]
    rw [if_pos (by omega), if_pos (by omega), if_pos (by omega), wsucc (show i < xs.length by omega) hn, ih k (i + 1) (by omega) (by omega), rd_get _ _ (by omega), rd_get _ _ (by omega), drop_cons xs i (by omega), drop_cons ys i (by omega)]
    split
    · rename_i h; simp only [List.cons.injEq, h, true_and]
    · rename_i h; simp only [List.cons.injEq, h, false_and, decide_false]
theorem laws_eqIntS_eq (k : Nat) (a b : List Int) (hk : a.length < k) (hn : a.length ≤ 9223372036854775807) : laws_eqIntS.f k a b = some (decide (a = b)) := by
  unfold laws_eqIntS.f
  by_cases h : a.length = b.length
  · rw [if_pos (by omega)]
    have := laws_eqIntS_go a b h hn a.length k 0 (by omega) hk
    rw [Int.natCast_zero] at this
    rw [this]; rfl
  · rw [if_neg (by omega)]; congr 1; symm; rw [decide_eq_false_iff_not]; intro e; exact h (by rw [e])

theorem FnExactClearBetween {l : List S69} {a b : List Int} (h : l.length * 32 ≤ 140737488351232) (_ : ∀ x ∈ l, (Lit.int .i64 x.f0).wf = true ∧ (Lit.int .i64 x.f1).wf = true ∧ (Lit.int .i64 x.f2).wf = true ∧ (Lit.int .i64 x.f3).wf = true) (_ : a.length * 8 ≤ 140737488351232) (_ : ∀ x ∈ a, (Lit.int .i64 x).wf = true) (_ : b.length * 8 ≤ 140737488351232) (_ : ∀ x ∈ b, (Lit.int .i64 x).wf = true) : ∃ k, laws_FnExactClearBetween.f k l a b = some true := by
  obtain ⟨Q1, hQ1⟩ : ∃ Q, Q = a.length * (a.length + 4) := ⟨_, rfl⟩
  obtain ⟨Q2, hQ2⟩ : ∃ Q, Q = b.length * (b.length + 4) := ⟨_, rfl⟩
  obtain ⟨Q3, hQ3⟩ : ∃ Q, Q = a.length * (b.length + 3) := ⟨_, rfl⟩
  have hQ4 : a.length * (b.length + 2) ≤ Q3 := by rw [hQ3]; exact Nat.mul_le_mul_left _ (by omega)
  obtain ⟨B, hB⟩ : ∃ B, B = Q3 + Q1 + Q2 + l.length + a.length + b.length + 64 := ⟨_, rfl⟩
  refine ⟨B, ?_⟩
  unfold laws_FnExactClearBetween.f
  by_cases h0 : (a.length : Int) > 1048576
  · rw [if_pos h0]
  by_cases h01 : (b.length : Int) > 1048576
  · rw [if_neg h0, if_pos h01]
  rw [if_neg h0, if_neg h01, szPathS_eq l (by omega), Option.bind_some]
  by_cases h1 : l.length ≤ 1048576
  · have e : (l.map cvP).length = l.length := by simp
    rw [if_pos h1, if_neg (by omega)]
    simp only [toPathS_eq B l (by omega) (by omega), Option.bind_some, toIntS_eq B a (by omega) (by omega), toIntS_eq B b (by omega) (by omega), sCB_eq B (l.map cvP) a b (by omega) (by omega) (by omega) (by omega), iCB_eq B (l.map cvP) a b (by omega) (by omega) (by omega) (by omega), if_true, eqPathS_self B (l.map cvP) (by omega) (by omega), laws_eqIntS_eq B a a (by omega) (by omega), laws_eqIntS_eq B b b (by omega) (by omega), decide_true]
  · rw [if_neg h1, if_pos (by omega)]

end Go.Proofs.Ytldmhlpfkclclaa.Pure
