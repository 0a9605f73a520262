/- What the row of FnExactArePaths leans on: for every slice of paths (that fits into memory) the law answers true; no condition. -/
import Derived.Test.YtepicmocmioiiaaPFnExactArePathsx5
set_option linter.unusedVariables false
set_option linter.unusedSimpArgs false
namespace Go.Proofs.Ytepicmocmioiiaa.Pure
open Go.RowKit Go.Proofs.Ytepicmocmioiiaa.PFnExactArePaths Go.Proofs.YtepicmocmioiiaaW.PrintWords Go.Proofs.YtepicmocmioiiaaW.PrintLast

theorem in1 (a b c : Int) : spec_l1In.f a b c = some (decide (b ≤ a ∧ a ≤ c)) := by
  unfold spec_l1In.f
  by_cases h : a ≥ b
  · rw [if_pos h]; congr 1; simp only [decide_eq_decide]; omega
  · rw [if_neg h]; congr 1; symm; simp only [decide_eq_false_iff_not]; omega

theorem inr (a b c : Int) : impl_InRange.f a b c = some (decide (b ≤ a ∧ a ≤ c)) := by
  unfold impl_InRange.f
  by_cases h : b ≤ a
  · rw [if_pos h]; congr 1; simp only [decide_eq_decide]; omega
  · rw [if_neg h]; congr 1; symm; simp only [decide_eq_false_iff_not]; omega

def isPathV (a b c d : Int) : Bool := decide (1 ≤ a ∧ a ≤ 20) && (decide (1 ≤ b ∧ b ≤ 3) && (decide (0 ≤ c ∧ c ≤ 3) && (decide (0 ≤ d ∧ d ≤ 3) && ((c == d) == (b == 2)))))
theorem sIsPath (a b c d : Int) : spec_IsPath.f a b c d = some (isPathV a b c d) := by
  unfold spec_IsPath.f isPathV
  simp only [in1, Option.bind_some]
  generalize decide (1 ≤ a ∧ a ≤ 20) = p1
  generalize decide (1 ≤ b ∧ b ≤ 3) = p2
  generalize decide (0 ≤ c ∧ c ≤ 3) = p3
  generalize decide (0 ≤ d ∧ d ≤ 3) = p4
  cases p1 <;> cases p2 <;> cases p3 <;> cases p4 <;> rfl
theorem iIsPath (a b c d : Int) : impl_IsPath.f a b c d = some (isPathV a b c d) := by
  unfold impl_IsPath.f isPathV
  simp only [inr, Option.bind_some]
  generalize decide (1 ≤ a ∧ a ≤ 20) = p1
  generalize decide (1 ≤ b ∧ b ≤ 3) = p2
  generalize decide (0 ≤ c ∧ c ≤ 3) = p3
  generalize decide (0 ≤ d ∧ d ≤ 3) = p4
  cases p1 <;> cases p2 <;> cases p3 <;> cases p4 <;> rfl
theorem isPathV_iff (a b c d : Int) : isPathV a b c d = true ↔ (1 ≤ a ∧ a ≤ 20) ∧ (1 ≤ b ∧ b ≤ 3) ∧ (0 ≤ c ∧ c ≤ 3) ∧ (0 ≤ d ∧ d ≤ 3) ∧ (c = d ↔ b = 2) := by
  unfold isPathV
  simp only [Bool.and_eq_true, decide_eq_true_eq, beq_iff_eq]
  have : ((c == d) = (b == 2)) ↔ (c = d ↔ b = 2) := by
    rw [Bool.eq_iff_iff]; simp only [beq_iff_eq]
  rw [this]

theorem wsucc {i n : Nat} (h : i < n) (hn : n ≤ 9223372036854775807) : wrap64 ((i : Int) + 1) = ((i + 1 : Nat) : Int) := by unfold wrap64; omega
theorem rd_nat (xs : List Int) (i : Nat) : rd xs (i : Int) = xs.getD i 0 := by unfold rd; rw [Int.toNat_natCast]
theorem rd_get (xs : List Int) (i : Nat) (h : i < xs.length) : rd xs (i : Int) = xs[i] := by
  rw [rd_nat, List.getD_eq_getElem?_getD, List.getElem?_eq_getElem h]; rfl
theorem drop_cons {α : Type} (xs : List α) (i : Nat) (h : i < xs.length) : xs.drop i = xs[i] :: xs.drop (i + 1) := (List.drop_eq_getElem_cons h)
theorem set_take {α : Type} (ys : List α) (i : Nat) (v : α) (h : i < ys.length) : (ys.set i v).take (i + 1) = ys.take i ++ [v] := by
  rw [List.take_succ_eq_append_getElem (by simpa using h)]
  rw [List.take_set, List.set_eq_of_length_le (by simp; omega)]
  simp

/-- The law's path as the program's. -/
def cvP (x : S48) : S50 := ⟨x.f0, x.f1, x.f2, x.f3⟩
def pathV (p : S50) : Bool := isPathV p.f0 p.f1 p.f2 p.f3
theorem rdL_get (xs : List S48) (i : Nat) (h : i < xs.length) : rd_T48 xs (i : Int) = xs[i] := by
  unfold rd_T48; rw [Int.toNat_natCast, List.getD_eq_getElem?_getD, List.getElem?_eq_getElem h]; rfl
theorem rdI_get (xs : List S50) (i : Nat) (h : i < xs.length) : rd_T50 xs (i : Int) = xs[i] := by
  unfold rd_T50; rw [Int.toNat_natCast, List.getD_eq_getElem?_getD, List.getElem?_eq_getElem h]; rfl
theorem toPathS_go (xs : List S48) (hn : xs.length ≤ 9223372036854775807) : ∀ (d k : Nat) (ys : List S50) (i : Nat), ys.length = xs.length → i + d = xs.length → d < k →
    laws_toPathS.l0 k xs ys (i : Int) = some (ys.take i ++ (xs.drop i).map cvP) := by
  intro d
  induction d with
  | zero =>
    intro k ys i hl hi hk
    obtain ⟨k, rfl⟩ : ∃ m, k = m + 1 := ⟨k - 1, by omega⟩
    simp only [laws_toPathS.l0]
    rw [if_neg (by omega), List.take_of_length_le (by omega), List.drop_of_length_le (by omega)]; simp
  | succ d ih =>
    intro k ys i hl hi hk
    obtain ⟨k, rfl⟩ : ∃ m, k = m + 1 := ⟨k - 1, by omega⟩
    simp only [laws_toPathS.l0, laws_toPath.f]
    rw [if_pos (by omega), if_pos (by omega), Option.bind_some, if_pos (by omega), wsucc (show i < xs.length by omega) hn, ih k _ (i + 1) (by simpa using hl) (by omega) (by omega), Int.toNat_natCast, set_take _ _ _ (by omega), rdL_get _ _ (by omega), List.append_assoc, drop_cons xs i (by omega)]
    rfl
theorem toPathS_eq (k : Nat) (l : List S48) (hk : l.length < k) (hn : l.length ≤ 8796093022208) : laws_toPathS.f k l = some (l.map cvP) := by
  unfold laws_toPathS.f
  rw [if_pos (by omega), if_pos (by omega)]
  have := toPathS_go l (by omega) l.length k (List.replicate ((l.length : Int)).toNat z50) 0 (by simp) (by omega) (by omega)
  rw [Int.natCast_zero] at this
  rw [this]; simp
theorem szPathS_eq (l : List S48) (hn : l.length ≤ 8796093022208) : laws_szPathS.f l 1048576 = some (if l.length ≤ 1048576 then 1048576 - (l.length : Int) else -1) := by
  unfold laws_szPathS.f
  have w : wrap64 (1048576 - (l.length : Int)) = 1048576 - l.length := by unfold wrap64; omega
  rw [w]
  by_cases h : l.length ≤ 1048576
  · rw [if_neg (by omega), if_pos h]
  · rw [if_pos (by omega), if_neg h]
theorem eqPath_self (a b c d : Int) : laws_eqPath.f a b c d a b c d = some true := by unfold laws_eqPath.f; simp
theorem eqPathS_go (xs : List S50) (hn : xs.length ≤ 9223372036854775807) : ∀ (d k : Nat) (i : Nat), i + d = xs.length → d < k → laws_eqPathS.l0 k xs xs (i : Int) = some true := by
  intro d
  induction d with
  | zero =>
    intro k i hi hk
    obtain ⟨k, rfl⟩ : ∃ m, k = m + 1 := ⟨k - 1, by omega⟩
    simp only [laws_eqPathS.l0]
    rw [if_neg (by omega)]
  | succ d ih =>
    intro k i hi hk
    obtain ⟨k, rfl⟩ : ∃ m, k = m + 1 := ⟨k - 1, by omega⟩
    simp only [laws_eqPathS.l0]
    rw [if_pos (by omega), if_pos (by omega), if_pos (by omega), eqPath_self, Option.bind_some, if_pos rfl, wsucc (show i < xs.length by omega) hn, ih k (i + 1) (by omega) (by omega)]
theorem eqPathS_self (k : Nat) (l : List S50) (hk : l.length < k) (hn : l.length ≤ 9223372036854775807) : laws_eqPathS.f k l l = some true := by
  unfold laws_eqPathS.f
  rw [if_pos rfl]
  have := eqPathS_go l hn l.length k 0 (by omega) hk
  rw [Int.natCast_zero] at this
  exact this

/-- The path at i is one, and above the one before it. -/
def okAt (l : List S50) (i : Nat) : Bool := pathV (l.getD i z50) && (decide (i = 0) || decide ((l.getD (i - 1) z50).f0 < (l.getD i z50).f0))
def arFrom (l : List S50) : Nat → Nat → Bool | 0, _ => true | d + 1, i => okAt l i && arFrom l d (i + 1)
def areV (l : List S50) : Bool := decide (l.length ≤ 12) && arFrom l l.length 0
theorem getDI (xs : List S50) (i : Nat) (h : i < xs.length) : xs.getD i z50 = xs[i] := by
  rw [List.getD_eq_getElem?_getD, List.getElem?_eq_getElem h]; rfl
theorem wpred {i : Nat} (h : 0 < i) (hi : i ≤ 9223372036854775807) : wrap64 ((i : Int) - 1) = ((i - 1 : Nat) : Int) := by unfold wrap64; omega
theorem sAre_go (l : List S50) (hn : l.length ≤ 9223372036854775807) : ∀ (d k : Nat) (i : Nat), i + d = l.length → d < k → spec_ArePaths.l0 k l (i : Int) = some (decide (l.length ≤ 12) && arFrom l d i) := by
  intro d
  induction d with
  | zero =>
    intro k i hi hk
    obtain ⟨k, rfl⟩ : ∃ m, k = m + 1 := ⟨k - 1, by omega⟩
    simp only [spec_ArePaths.l0, arFrom]
    rw [if_neg (by omega), Bool.and_true]; congr 1; rw [decide_eq_decide]; omega
  | succ d ih =>
    intro k i hi hk
    obtain ⟨k, rfl⟩ : ∃ m, k = m + 1 := ⟨k - 1, by omega⟩
    simp only [spec_ArePaths.l0, arFrom, okAt]
    rw [if_pos (by omega), if_pos (by omega), sIsPath, Option.bind_some, rdI_get _ _ (by omega), wsucc (show i < l.length by omega) hn, ih k (i + 1) (by omega) (by omega), getDI l i (by omega)]
    have hpv : isPathV (l[i]).f0 (l[i]).f1 (l[i]).f2 (l[i]).f3 = pathV l[i] := rfl
    rw [hpv]
    cases hp : pathV l[i] with
    | false => rw [if_neg (by decide), Bool.false_and, Bool.false_and, Bool.and_false]
    | true =>
      rw [if_pos rfl]
      by_cases h0 : i = 0
      · subst h0
        rw [if_neg (by omega)]; simp
      · rw [if_pos (by omega), wpred (by omega) (by omega), if_pos (by omega), if_pos (by omega), rdI_get _ _ (by omega), getDI l (i - 1) (by omega), decide_eq_false h0, Bool.false_or, Bool.true_and]
        by_cases hc : (l[i - 1]).f0 < (l[i]).f0
        · rw [if_neg (by omega), decide_eq_true hc, Bool.true_and]
        · rw [if_pos (by omega), decide_eq_false hc, Bool.false_and, Bool.and_false]
theorem sAre_eq (k : Nat) (l : List S50) (hk : l.length < k) (hn : l.length ≤ 9223372036854775807) : spec_ArePaths.f k l = some (areV l) := by
  unfold spec_ArePaths.f areV
  have := sAre_go l hn l.length k 0 (by omega) hk
  rw [Int.natCast_zero] at this
  exact this
theorem iAre_go (l : List S50) (hn : l.length ≤ 9223372036854775807) : ∀ (d k : Nat) (i : Nat), i + d = l.length → d < k → impl_ArePaths.l0 k l l (l.length : Int) (i : Int) = some (arFrom l d i) := by
  intro d
  induction d with
  | zero =>
    intro k i hi hk
    obtain ⟨k, rfl⟩ : ∃ m, k = m + 1 := ⟨k - 1, by omega⟩
    simp only [impl_ArePaths.l0, arFrom]
    rw [if_neg (by omega)]
  | succ d ih =>
    intro k i hi hk
    obtain ⟨k, rfl⟩ : ∃ m, k = m + 1 := ⟨k - 1, by omega⟩
    simp only [impl_ArePaths.l0, arFrom, okAt]
    rw [if_pos (by omega), if_pos (by omega), if_pos (by omega), iIsPath, Option.bind_some, rdI_get _ _ (by omega), wsucc (show i < l.length by omega) hn, ih k (i + 1) (by omega) (by omega), getDI l i (by omega)]
    have hpv : isPathV (l[i]).f0 (l[i]).f1 (l[i]).f2 (l[i]).f3 = pathV l[i] := rfl
    rw [hpv]
    cases hp : pathV l[i] with
    | false => rw [if_neg (by decide), Bool.false_and, Bool.false_and]
    | true =>
      rw [if_pos rfl]
      by_cases h0 : i = 0
      · subst h0
        rw [if_neg (by omega)]; simp
      · rw [if_pos (by omega), wpred (by omega) (by omega), if_pos (by omega), if_pos (by omega), rdI_get _ _ (by omega), getDI l (i - 1) (by omega), decide_eq_false h0, Bool.false_or, Bool.true_and]
        by_cases hc : (l[i - 1]).f0 < (l[i]).f0
        · rw [if_neg (by omega), decide_eq_true hc, Bool.true_and]
        · rw [if_pos (by omega), decide_eq_false hc, Bool.false_and]
theorem iAre_eq (k : Nat) (l : List S50) (hk : l.length < k) (hn : l.length ≤ 9223372036854775807) : impl_ArePaths.f k l = some (areV l) := by
  unfold impl_ArePaths.f areV
  have := iAre_go l hn l.length k 0 (by omega) hk
  rw [Int.natCast_zero] at this
  by_cases h : l.length ≤ 12
  · rw [if_neg (by omega), decide_eq_true h, Bool.true_and]; exact this
  · rw [if_pos (by omega), decide_eq_false h, Bool.false_and]
theorem arFrom_iff (l : List S50) : ∀ d i, arFrom l d i = true ↔ ∀ j, i ≤ j → j < i + d → okAt l j = true := by
  intro d
  induction d with
  | zero => intro i; simp only [arFrom, true_iff]; intro j h1 h2; omega
  | succ d ih =>
    intro i
    simp only [arFrom, Bool.and_eq_true, ih]
    constructor
    · rintro ⟨h1, h2⟩ j h3 h4
      rcases Nat.eq_or_lt_of_le h3 with rfl | h5
      · exact h1
      · exact h2 j h5 (by omega)
    · intro h; exact ⟨h i (Nat.le_refl _) (by omega), fun j h3 h4 => h j (by omega) (by omega)⟩

theorem FnExactArePaths {l : List S48} (h : l.length * 32 ≤ 140737488351232) (_ : ∀ x ∈ l, (Lit.int .i64 x.f0).wf = true ∧ (Lit.int .i64 x.f1).wf = true ∧ (Lit.int .i64 x.f2).wf = true ∧ (Lit.int .i64 x.f3).wf = true) : ∃ k, laws_FnExactArePaths.f k l = some true := by
  refine ⟨l.length + 1, ?_⟩
  unfold laws_FnExactArePaths.f
  rw [szPathS_eq l (by omega), Option.bind_some]
  by_cases h1 : l.length ≤ 1048576
  · have e : (l.map cvP).length = l.length := by simp
    rw [if_pos h1, if_neg (by omega)]
    simp only [toPathS_eq (l.length + 1) l (by omega) (by omega), Option.bind_some, sAre_eq (l.length + 1) (l.map cvP) (by omega) (by omega), iAre_eq (l.length + 1) (l.map cvP) (by omega) (by omega), bne_self_eq_false, Bool.false_eq_true, if_false, eqPathS_self (l.length + 1) (l.map cvP) (by omega) (by omega), if_true]
  · rw [if_neg h1, if_pos (by omega)]

end Go.Proofs.Ytepicmocmioiiaa.Pure
